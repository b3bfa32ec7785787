/-
  The reference's state in memory, and its helper first.
  No condition.
-/
import Derived.Test.YthnolhcknhhipaaDkDo
import Derived.Deep.AppendSrc
namespace Go.Proofs.Ythnolhcknhhipaa
set_option linter.unusedVariables false
set_option linter.unusedSimpArgs false
open Go.RowKit

/-- A slice of slices of bytes that can be read. -/
def Grid (w : World) (M : Nat → Prop) (v : Value) (L : List (List Int)) : Prop :=
  ∃ ao cap, v = .slice ao L.length cap ∧ L.length ≤ cap ∧ cap ≤ maxLen ∧ (ao = none → L.length = 0 ∧ cap = 0) ∧
    ∀ i (hi : i < L.length), ∃ b off u, ao = some ⟨b, off, none⟩ ∧ b < w.heap.size ∧ ¬ M b ∧ w.cell? ⟨b, off + i, none⟩ = some u ∧ Bytes w M u L[i]

theorem Grid.step {M M' : Nat → Prop} {w w' : World} {v : Value} {L : List (List Int)} (h : Grid w M v L) (hs : Step M w M' w') : Grid w' M' v L := by
  obtain ⟨ao, cap, hv, hc, hm, h0, hx⟩ := h
  refine ⟨ao, cap, hv, hc, hm, h0, fun i hi => ?_⟩
  obtain ⟨b, off, u, ha, hb, hmb, hcell, hu⟩ := hx i hi
  exact ⟨b, off, u, ha, Nat.lt_of_lt_of_le hb hs.size, hs.away hb hmb, hs.cell hmb hcell, hu.step hs⟩

/-- A slice of pending writes of the reference. -/
def Pend (w : World) (M : Nat → Prop) (v : Value) (l : List (Int × List Int)) : Prop :=
  ∃ ao cap, v = .slice ao l.length cap ∧ l.length ≤ cap ∧ cap ≤ maxLen ∧ (ao = none → l.length = 0 ∧ cap = 0) ∧
    ∀ i (hi : i < l.length), ∃ b off u, ao = some ⟨b, off, none⟩ ∧ b < w.heap.size ∧ ¬ M b ∧ w.cell? ⟨b, off + i * 2, none⟩ = some (.int .i64 l[i].1) ∧ w.cell? ⟨b, off + i * 2 + 1, none⟩ = some u ∧ Bytes w M u l[i].2

theorem Pend.step {M M' : Nat → Prop} {w w' : World} {v : Value} {l : List (Int × List Int)} (h : Pend w M v l) (hs : Step M w M' w') : Pend w' M' v l := by
  obtain ⟨ao, cap, hv, hc, hm, h0, hx⟩ := h
  refine ⟨ao, cap, hv, hc, hm, h0, fun i hi => ?_⟩
  obtain ⟨b, off, u, ha, hb, hmb, hcell, hcell2, hu⟩ := hx i hi
  exact ⟨b, off, u, ha, Nat.lt_of_lt_of_le hb hs.size, hs.away hb hmb, hs.cell hmb hcell, hs.cell hmb hcell2, hu.step hs⟩

theorem Pend.nil (w : World) (M : Nat → Prop) : Pend w M (.slice none 0 0) [] := ⟨none, 0, rfl, Nat.le_refl _, by simp [maxLen], fun _ => ⟨rfl, rfl⟩, fun i hi => by simp at hi⟩

/-- The sectors of the durable bytes. -/
def sects (dur : List Int) (n : Nat) : List (List Int) := (List.range n).map (sect dur)

/-- The reference's state v reads as the disk s. -/
def RefAt (w : World) (M : Nat → Prop) (n : Nat) (v : Value) (s : DS) : Prop :=
  ∃ C W K, v = .agg #[C, W, .bool s.down, .int .i64 s.fuse, K] ∧ Grid w M C (sects s.dur n) ∧ Pend w M W s.wr ∧ Ints w M K s.kept

theorem RefAt.step {M M' : Nat → Prop} {w w' : World} {n : Nat} {v : Value} {s : DS} (h : RefAt w M n v s) (hs : Step M w M' w') : RefAt w' M' n v s := by
  obtain ⟨C, W, K, hv, h1, h2, h3⟩ := h
  exact ⟨C, W, K, hv, h1.step hs, h2.step hs, h3.step hs⟩

/-- An append of a nil slice. -/
theorem run_append_nil {P : Program} (w : World) (t ty e : TypeId) (i : TypeInfo) (ht : P.underlying t = some (.slice e)) (hi : P.info? e = some i) (b off l c : Nat) (hl : l ≤ c) :
    (Builtin.append_ #[t, t] ty #[.slice (some ⟨b, off, none⟩) l c, .slice none 0 0]).run P w = .ok (.slice (some ⟨b, off, none⟩) l c) w := by
  have := run_append_room_src (P := P) w t t ty e i ht hi b off l c (.slice none 0 0) 0 [] (Src.ofNil w ht 0) (by omega) (by simp) (by simp)
  simpa [World.setCells] using this

set_option maxHeartbeats 1000000 in
/-- An append to an owned row that is not nil, of whatever slice. -/
theorem wpList_append_any {P : Program} {w : World} {ops : Array Oper} {rest : List Oper} {o : Oper} {a : Act} {Q : Exit → Act → World → Prop} (hgd : o.guard = none) (s x : Operand) (t : TypeId)
    (ho : o.op = .call { callee := .builtin .append, args := #[s, x], argTypes := #[t, t] })
    (base : Nat) (e : TypeId) (i : TypeInfo) (z : Value) (size bytes : Nat) (ht : P.underlying t = some (.slice e)) (hi : P.info? e = some i) (hz : i.zero = some z)
    (hsize : i.size = size) (hby : i.bytes = bytes) (hzs : z.cells.size = size) (hsz : 0 < size)
    (v : Value) (n : Nat) (xs : List Value) (hs : a.eval s = v) (hown : w.ownsRow base e size v n xs) (hne : v.ownBlock.isSome = true)
    (ao : Option Addr) (m c : Nat) (news : List Value) (hx : a.eval x = .slice ao m c) (h0 : ao = none → m = 0 ∧ c = 0) (hl : news.length = m * size) (hnews : ∀ ad, ao = some ad → ∀ j u, news[j]? = some u → w.cell? (ad.add j) = some u) (h1 : ∀ u ∈ news, u.oneCell' = true)
    (h63 : n + m ≤ maxLen) (hbytes : (n + m) * bytes ≤ 140737488355328) (hbase : base ≤ w.heap.size)
    (h : ∀ v' w', w'.ownsRow base e size v' (n + m) (xs ++ news) → w.grownBy w' v.ownBlock → v'.ownBlock.isSome = true → wpList P ops Q rest (a.put o.dst v') w') : wpList P ops Q (o :: rest) a w := by
  cases ao with
  | some ad =>
    refine wpList_append_own_at w hgd s x t ho base e i z size bytes ht hi hz hsize hby hzs hsz v n xs hs hown ad m c news hx hl (hnews ad rfl) h1 h63 hbytes hbase ?_
    intro v' w' h2 h3 h4 h5
    refine h v' w' h2 h3 ?_
    rcases h5 with h5 | h5
    · rw [h5]; exact hne
    · rw [h5]; rfl
  | none =>
    obtain ⟨rfl, rfl⟩ := h0 rfl
    have hn : news = [] := by simpa using hl
    subst hn
    obtain ⟨ao, cap, rfl, hc, -, -, hsh⟩ := ownsRow_shape hown
    cases ao with
    | none => simp [Value.ownBlock] at hne
    | some ad =>
      obtain ⟨b, off, sp⟩ := ad
      obtain ⟨e1, e2, e3, -⟩ := hsh _ rfl
      simp only at e1 e2
      subst e1; subst e2
      refine wpList_plain hgd fun K hK => ?_
      unfold Oper.wp execOp
      simp only [ho, resolve, invoke, builtin, Sem.run_bind, Sem.run_pure, Result.andThen_ok, List.map_toArray, List.map_cons, List.map_nil, hs, hx, run_append_nil w t o.type e i ht hi b 0 n cap hc]
      refine hK _ _ (h _ _ (by simpa using hown) ?_ hne)
      exact ⟨rfl, rfl, rfl, Nat.le_refl _, fun _ _ _ => rfl⟩

end Go.Proofs.Ythnolhcknhhipaa
