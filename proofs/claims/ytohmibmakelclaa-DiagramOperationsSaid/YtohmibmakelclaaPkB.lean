/-
  A diagram in memory; level, sides.
  No condition.
-/
import Derived.Test.YtohmibmakelclaaPkA
import Derived.Maps.AppendAt
import Derived.Laws.EntriesVeiled
namespace Go.Proofs.Ytohmibmakelclaa
set_option linter.unusedVariables false
set_option linter.unusedSimpArgs false
open Go.RowKit

/-- The cells of a row of branches. -/
def bcells : List Br → List Value
  | [] => []
  | b :: ns => .int .i64 b.v :: .int .i64 b.l :: .int .i64 b.h :: bcells ns

theorem bcells_length : ∀ ns : List Br, (bcells ns).length = ns.length * 3
  | [] => rfl
  | b :: ns => by simp only [bcells, List.length_cons, bcells_length ns]; omega
theorem bcells_append : ∀ a b : List Br, bcells (a ++ b) = bcells a ++ bcells b
  | [], _ => rfl
  | x :: a, b => by simp [bcells, bcells_append a b]
theorem bcells_get : ∀ (ns : List Br) (i : Nat) (h : i < ns.length), (bcells ns)[i * 3]? = some (.int .i64 ns[i].v) ∧ (bcells ns)[i * 3 + 1]? = some (.int .i64 ns[i].l) ∧ (bcells ns)[i * 3 + 2]? = some (.int .i64 ns[i].h)
  | [], i, h => by simp at h
  | b :: ns, 0, _ => by simp [bcells]
  | b :: ns, i + 1, h => by
    have := bcells_get ns i (by simpa using h)
    simp only [bcells]
    rw [show (i + 1) * 3 = i * 3 + 3 by omega, show i * 3 + 3 + 1 = (i * 3 + 1) + 3 by omega, show i * 3 + 3 + 2 = (i * 3 + 2) + 3 by omega]
    simpa using this
theorem bcells_one : ∀ (ns : List Br), ∀ u ∈ bcells ns, u.oneCell' = true
  | [], u, h => by cases h
  | b :: ns, u, h => by
    simp only [bcells, List.mem_cons] at h
    rcases h with rfl | rfl | rfl | h
    · rfl
    · rfl
    · rfl
    · exact bcells_one ns u h

/-- A slice of branches that can be read. -/
def Brs (w : World) (M : Nat → Prop) (v : Value) (ns : List Br) : Prop := Reads w M v ns.length (bcells ns)

theorem Brs.step {M M' : Nat → Prop} {w w' : World} {v : Value} {ns : List Br} (h : Brs w M v ns) (hs : Step M w M' w') : Brs w' M' v ns := Reads.step h hs
theorem Brs.shape {M : Nat → Prop} {w : World} {v : Value} {ns : List Br} (h : Brs w M v ns) : ∃ a c, v = .slice a ns.length c := by obtain ⟨a, c, e, -⟩ := h; exact ⟨a, c, e⟩
theorem Brs.nil (w : World) (M : Nat → Prop) : Brs w M (.slice none 0 0) [] := ⟨none, 0, rfl, Nat.le_refl _, by simp [maxLen], fun _ => ⟨rfl, rfl⟩, .inl rfl⟩
theorem Brs.len {M : Nat → Prop} {w : World} {a : Option Addr} {m c : Nat} {ns : List Br} (h : Brs w M (.slice a m c) ns) : ns.length ≤ c ∧ c ≤ maxLen ∧ (a = none → ns.length = 0 ∧ c = 0) := by
  obtain ⟨a', c', e, h1, h2, h3, -⟩ := h; cases e; exact ⟨h1, h2, h3⟩

/-- One branch of the slice. -/
theorem Brs.get {M : Nat → Prop} {w : World} {a : Option Addr} {m c : Nat} {ns : List Br} (h : Brs w M (.slice a m c) ns) (i : Nat) (hi : i < ns.length) :
    ∃ b off, a = some ⟨b, off, none⟩ ∧ b < w.heap.size ∧ ¬ M b ∧ w.cell? ⟨b, off + i * 3, none⟩ = some (.int .i64 ns[i].v) ∧ w.cell? ⟨b, off + i * 3 + 1, none⟩ = some (.int .i64 ns[i].l) ∧ w.cell? ⟨b, off + i * 3 + 2, none⟩ = some (.int .i64 ns[i].h) := by
  obtain ⟨a', c', e, h1, h2, h3, hx⟩ := h
  cases e
  obtain ⟨g1, g2, g3⟩ := bcells_get ns i hi
  rcases hx with hx | ⟨b, off, rfl, hb, hm, hc⟩
  · have := bcells_length ns; rw [hx] at this; simp at this; omega
  · refine ⟨b, off, rfl, hb, hm, hc _ _ g1, ?_, ?_⟩
    · rw [Nat.add_assoc]; exact hc _ _ g2
    · rw [Nat.add_assoc]; exact hc _ _ g3

/-- The numbers of a diagram fit. -/
structure Dg.In (D : Dg) : Prop where
  nodes : ∀ b ∈ D.nodes, b.In
  root : I64 D.root

/-- The diagram D as the value v. -/
def DgAt (w : World) (M : Nat → Prop) (v : Value) (D : Dg) : Prop := D.In ∧ ∃ S, v = .agg #[S, .int .i64 D.root] ∧ Brs w M S D.nodes

theorem DgAt.step {M M' : Nat → Prop} {w w' : World} {v : Value} {D : Dg} (h : DgAt w M v D) (hs : Step M w M' w') : DgAt w' M' v D := by
  obtain ⟨hi, S, e, h⟩ := h; exact ⟨hi, S, e, h.step hs⟩
theorem DgAt.wide {M M' : Nat → Prop} {w : World} {v : Value} {D : Dg} (h : DgAt w M' v D) (hM : ∀ k, M k → M' k) : DgAt w M v D :=
  h.step ((Step.refl M' w).to (fun _ h => h) (fun k hk => .inl (hM k hk)))
theorem DgAt.below {w w' : World} {M : Nat → Prop} {v : Value} {D : Dg} (h : DgAt w M v D) (hb : Below w.heap.size w w') : DgAt w' M v D := h.step (Step.of_below hb M)
theorem DgAt.shape {M : Nat → Prop} {w : World} {v : Value} {D : Dg} (h : DgAt w M v D) : ∃ a c, v = .agg #[.slice a D.nodes.length c, .int .i64 D.root] := by
  obtain ⟨-, S, rfl, hb⟩ := h; obtain ⟨a, c, rfl⟩ := hb.shape; exact ⟨a, c, rfl⟩
theorem DgAt.brs {M : Nat → Prop} {w : World} {S R : Value} {D : Dg} (h : DgAt w M (.agg #[S, R]) D) : Brs w M S D.nodes := by
  obtain ⟨-, S', e, hb⟩ := h; cases e; exact hb

/-- A diagram's two cells. -/
theorem box2 {w0 : World} {b : Nat} {S : Value} {r : Int} {t : TypeId} (h : w0.heap[b]? = some (.cells #[S, .int .i64 r] t (0, 0))) : w0.cell? ⟨b, 0, none⟩ = some S ∧ w0.cell? ⟨b, 1, none⟩ = some (.int .i64 r) :=
  ⟨by rw [cell_of_row w0 b 0 _ _ _ h]; rfl, by rw [cell_of_row w0 b 1 _ _ _ h]; rfl⟩
theorem frozen_box {w0 : World} {b : Nat} {cs : Array Value} {t : TypeId} (h : w0.heap[b]? = some (.cells cs t (0, 0))) (i : Nat) : w0.frozen? ⟨b, i, none⟩ = false := by simp [World.frozen?, h]
theorem below_drewN {B : Nat} {a w : World} (h : Below B a w) (n : Nat) : Below B a (w.drewN n) := by
  induction n with
  | zero => exact h
  | succ n ih => exact ih.drew
/-- A new block. -/
theorem laid (w : World) (cs : Array Value) (t : TypeId) : ∃ w0 bx, w.alloc (.cells cs t) = w0 ∧ w.heap.size = bx ∧ w0.heap.size = bx + 1 ∧ w0.heap[bx]? = some (.cells cs t (0, 0)) ∧ Below w.heap.size w w0 :=
  ⟨_, _, rfl, rfl, by simp, heap_alloc_new w _, (Below.refl _ _).alloc (Nat.le_refl _) _⟩

theorem level_at (ns : List Br) (i : Nat) (h : i < ns.length) : level ns ((i : Int) + 2) = ns[i].v := by
  unfold level
  rw [if_neg (by omega), show ((i : Int) + 2 - 2).toNat = i by omega, List.getD_eq_getElem?_getD, List.getElem?_eq_getElem h]; rfl

set_option maxHeartbeats 400000 in
theorem level_small (w : World) (v : Value) (D : Dg) (h : DgAt w NoB v D) (x : Int) (hx : x < 2) :
    Calls Try.prog 63 #[v, .int .i64 x] w fun e w' => e = .returned (.int .i64 64) ∧ Below w.heap.size w w' := by
  obtain ⟨a, c, rfl⟩ := h.shape
  obtain ⟨w0, bx, hw0q, hbx, hsz, hB, hb0⟩ := laid w #[.slice a D.nodes.length c, .int .i64 D.root] 28
  have B0 := Lib.hid hb0; have BX := Lib.hid hbx
  clear h hB hb0 hsz
  go_enter Try.func63, Try.ntmps63
  go_wp2_with (fail)
  go_ret
  exact ⟨rfl, by first | exact B0.out | (rw [← BX.out]; exact B0.out)⟩

set_option maxHeartbeats 400000 in
theorem level_node (w : World) (v : Value) (D : Dg) (h : DgAt w NoB v D) (i : Nat) (hi : i < D.nodes.length) :
    Calls Try.prog 63 #[v, .int .i64 ((i : Int) + 2)] w fun e w' => e = .returned (.int .i64 D.nodes[i].v) ∧ Below w.heap.size w w' := by
  obtain ⟨a, c, rfl⟩ := h.shape
  obtain ⟨w0, bx, hw0q, hbx, hsz, hB, hb0⟩ := laid w #[.slice a D.nodes.length c, .int .i64 D.root] 28
  have HB := Lib.hid (h.brs.step (Step.of_below hb0 NoB))
  obtain ⟨x0, x1⟩ := box2 hB
  have hc := h.brs.len
  have B0 := Lib.hid hb0; have BX := Lib.hid hbx
  have hl : D.nodes.length ≤ 9223372036854775807 := by have := hc.1; have := hc.2.1; unfold maxLen at *; omega
  clear h hB hb0 hc hsz
  obtain ⟨b, off, rfl, -, -, c0, c1, c2⟩ := HB.out.get i hi
  have hi0 : (0 : Int) ≤ (i : Int) := by omega
  have hi1 : (i : Int) < (D.nodes.length : Int) := by omega
  go_enter Try.func63, Try.ntmps63
  go_wp2_with (fail)
  go_ret
  exact ⟨rfl, by first | exact B0.out | (rw [← BX.out]; exact B0.out)⟩

theorem level_any (w : World) (v : Value) (D : Dg) (h : DgAt w NoB v D) (x : Int) (hx : x < D.nodes.length + 2) :
    Calls Try.prog 63 #[v, .int .i64 x] w fun e w' => e = .returned (.int .i64 (level D.nodes x)) ∧ Below w.heap.size w w' := by
  by_cases h2 : x < 2
  · have e : level D.nodes x = 64 := by unfold level; rw [if_pos h2]
    rw [e]; exact level_small w v D h x h2
  · obtain ⟨i, rfl⟩ : ∃ i : Nat, x = (i : Int) + 2 := ⟨(x - 2).toNat, by omega⟩
    rw [level_at _ _ (by omega)]
    exact level_node w v D h i (by omega)

end Go.Proofs.Ytohmibmakelclaa

namespace Go.Proofs.Ytohmibmakelclaa
set_option linter.unusedVariables false
set_option linter.unusedSimpArgs false
open Go.RowKit

/-- Where a number leads by a condition. -/
def sides (ns : List Br) (x v : Int) : Int × Int := if level ns x = v then ((ns.getD (x - 2).toNat ⟨0, 0, 0⟩).l, (ns.getD (x - 2).toNat ⟨0, 0, 0⟩).h) else (x, x)

theorem sides_at (ns : List Br) (i : Nat) (h : i < ns.length) : sides ns ((i : Int) + 2) ns[i].v = (ns[i].l, ns[i].h) := by
  unfold sides
  rw [level_at _ _ h, if_pos rfl, show ((i : Int) + 2 - 2).toNat = i by omega, List.getD_eq_getElem?_getD, List.getElem?_eq_getElem h]; rfl

set_option maxHeartbeats 400000 in
theorem sides_other (w : World) (u : Value) (D : Dg) (h : DgAt w NoB u D) (x v : Int) (hx : x < D.nodes.length + 2) (hv : level D.nodes x ≠ v) :
    Calls Try.prog 98 #[u, .int .i64 x, .int .i64 v] w fun e w' => e = .returned (.tuple #[.int .i64 x, .int .i64 x]) ∧ Below w.heap.size w w' := by
  obtain ⟨a, c, rfl⟩ := h.shape
  obtain ⟨w0, bx, hw0q, hbx, hsz, hB, hb0⟩ := laid w #[.slice a D.nodes.length c, .int .i64 D.root] 28
  have HH : Hid (DgAt w0 NoB (.agg #[.slice a D.nodes.length c, .int .i64 D.root]) D) := h.below hb0
  obtain ⟨x0, x1⟩ := box2 hB
  have B0 := Lib.hid hb0; have BX := Lib.hid hbx
  have e1 : (level D.nodes x != v) = true := by simpa using hv
  clear h hB hb0 hsz hv
  go_enter Try.func98, Try.ntmps98
  go_wp2_with (fail)
  refine (level_any w0 _ D HH.out x hx).mono ?_
  rintro e w1 ⟨rfl, hb1⟩
  have B1 := Lib.hid (B0.out.trans (hb1.mono B0.out.size))
  clear hb1
  go_wp2_with (fail)
  go_ret2
  exact ⟨rfl, by first | exact B1.out | (rw [← BX.out]; exact B1.out)⟩

set_option maxHeartbeats 400000 in
theorem sides_node (w : World) (u : Value) (D : Dg) (h : DgAt w NoB u D) (i : Nat) (hi : i < D.nodes.length) :
    Calls Try.prog 98 #[u, .int .i64 ((i : Int) + 2), .int .i64 D.nodes[i].v] w fun e w' => e = .returned (.tuple #[.int .i64 D.nodes[i].l, .int .i64 D.nodes[i].h]) ∧ Below w.heap.size w w' := by
  obtain ⟨a, c, rfl⟩ := h.shape
  obtain ⟨w0, bx, hw0q, hbx, hsz, hB, hb0⟩ := laid w #[.slice a D.nodes.length c, .int .i64 D.root] 28
  have HH : Hid (DgAt w0 NoB (.agg #[.slice a D.nodes.length c, .int .i64 D.root]) D) := h.below hb0
  obtain ⟨x0, x1⟩ := box2 hB
  have B0 := Lib.hid hb0; have BX := Lib.hid hbx; have HB := Lib.hid hB
  have hc := h.brs.len
  have hl : D.nodes.length ≤ 9223372036854775807 := by have := hc.1; have := hc.2.1; unfold maxLen at *; omega
  clear h hB hb0 hsz hc
  have hi0 : (0 : Int) ≤ (i : Int) := by omega
  have hi1 : (i : Int) < (D.nodes.length : Int) := by omega
  go_enter Try.func98, Try.ntmps98
  go_wp2_with (fail)
  refine (level_node w0 _ D HH.out i hi).mono ?_
  rintro e w1 ⟨rfl, hb1⟩
  have B1 := Lib.hid (B0.out.trans (hb1.mono B0.out.size))
  obtain ⟨y0, y1⟩ := box2 (heap_below hb1 HB.out)
  obtain ⟨b, off, rfl, -, -, c0, c1, c2⟩ := (HH.out.brs.step (Step.of_below hb1 NoB)).get i hi
  clear hb1 x0 x1
  go_wp2_with (fail)
  go_quiet (fail)
  have B2 := Lib.hid (below_drewN B1.out nq)
  go_wp2_with (fail)
  go_ret2
  exact ⟨rfl, by first | exact B2.out | (rw [← BX.out]; exact B2.out)⟩

theorem sides_any (w : World) (u : Value) (D : Dg) (h : DgAt w NoB u D) (x v : Int) (hx : x < D.nodes.length + 2) (hv : v < 64) :
    Calls Try.prog 98 #[u, .int .i64 x, .int .i64 v] w fun e w' => e = .returned (.tuple #[.int .i64 (sides D.nodes x v).1, .int .i64 (sides D.nodes x v).2]) ∧ Below w.heap.size w w' := by
  by_cases he : level D.nodes x = v
  · have h2 : ¬ x < 2 := by
      intro h2
      unfold level at he
      rw [if_pos h2] at he; omega
    obtain ⟨i, rfl⟩ : ∃ i : Nat, x = (i : Int) + 2 := ⟨(x - 2).toNat, by omega⟩
    have hi : i < D.nodes.length := by omega
    rw [level_at _ _ hi] at he
    subst he
    rw [sides_at _ _ hi]
    exact sides_node w u D h i hi
  · have e : sides D.nodes x v = (x, x) := by unfold sides; rw [if_neg he]
    rw [e]; exact sides_other w u D h x v hx he

end Go.Proofs.Ytohmibmakelclaa

namespace Go.Proofs.Ytohmibmakelclaa
set_option linter.unusedVariables false
set_option linter.unusedSimpArgs false
open Go.RowKit

theorem take_snoc' {α : Type} (l : List α) (k : Nat) (h : k < l.length) : l.take (k + 1) = l.take k ++ [l[k]] := by
  rw [List.take_succ_eq_append_getElem h]

set_option maxHeartbeats 1000000 in
theorem equal_any (w : World) (v u : Value) (ns ms : List Br) (hv : Brs w NoB v ns) (hu : Brs w NoB u ms) :
    Calls Try.prog 65 #[v, u] w fun e w' => e = .returned (.bool (decide (ns = ms))) ∧ ∃ k, w' = w.drewN k := by
  obtain ⟨a, c, rfl⟩ := hv.shape
  obtain ⟨a', c', rfl⟩ := hu.shape
  have h1 := hv.len
  have h2 := hu.len
  have hl1 : ns.length ≤ 9223372036854775807 := by have := h1.1; have := h1.2.1; unfold maxLen at *; omega
  have hl2 : ms.length ≤ 9223372036854775807 := by have := h2.1; have := h2.2.1; unfold maxLen at *; omega
  have HV := Lib.hid hv; have HU := Lib.hid hu
  clear hv hu h1 h2
  by_cases hl : ns.length = ms.length
  · have HL := Lib.hid hl
    rw [← hl]
    clear hl
    go_enter Try.func65, Try.ntmps65
    go_wp2_with (fail)
    go_loopw [13] (fun i wr => ∃ j : Nat, j ≤ ns.length ∧ i = .int .i64 j ∧ Hid (ns.take j = ms.take j) ∧ Hid (∃ k, wr = w.drewN k)) (fun i _ => ns.length - (intOf i).toNat)
    case atStart => exact ⟨0, Nat.zero_le _, rfl, (show _ = _ by rfl), ⟨0, rfl⟩⟩
    case round =>
      obtain ⟨j, hj, rfl, RT, RW⟩ := hrel
      obtain ⟨kw, hkw⟩ := RW.out
      have hS : Step NoB w NoB wr := by rw [hkw]; exact (Step.refl _ w).drewN kw
      by_cases hlt : j < ns.length
      · obtain ⟨b, off, rfl, -, -, c0, c1, c2⟩ := (HV.out.step hS).get j hlt
        have hlt' : j < ms.length := by have := HL.out; omega
        obtain ⟨b', off', e', -, -, d0, d1, d2⟩ := Brs.get (show Brs wr NoB (.slice a' ms.length c') ms from HU.out.step hS) j hlt'
        subst e'
        have hj0 : (0 : Int) ≤ (j : Int) := by omega
        have hj1 : (j : Int) < (ns.length : Int) := by omega
        obtain ⟨x, hx⟩ : ∃ x, ns[j] = x := ⟨_, rfl⟩
        obtain ⟨y, hy⟩ : ∃ y, ms[j] = y := ⟨_, rfl⟩
        rw [hx] at c0 c1 c2
        rw [hy] at d0 d1 d2
        have HX := Lib.hid hx; have HY := Lib.hid hy
        clear hx hy hS hkw
        by_cases hxy : x = y
        · have RT' : Hid (ns.take (j + 1) = ms.take (j + 1)) := by
            show _ = _
            rw [take_snoc' _ _ hlt, take_snoc' _ _ hlt', RT.out, HX.out, HY.out, hxy]
          subst hxy
          go_wp2_with (fail)
          go_quiet (fail)
          have RW' : Hid (∃ k, wr.drewN nq = w.drewN k) := by
            obtain ⟨k, hk⟩ := RW.out
            exact ⟨k + nq, by rw [hk, World.drewN_drewN]⟩
          go_wp2_with (fail)
          go_roundw
          case rel => exact ⟨j + 1, by omega, by go_num, RT', RW'⟩
          case measure => simp [intOf]; omega
        · have e2 : Hid (decide (ns = ms) = false) := by
            show _ = _
            rw [decide_eq_false_iff_not]; intro h; apply hxy; rw [← HX.out, ← HY.out]; simp only [h]
          have hcase : x.v ≠ y.v ∨ (x.v = y.v ∧ x.l ≠ y.l) ∨ (x.v = y.v ∧ x.l = y.l ∧ x.h ≠ y.h) := by
            by_cases h1 : x.v = y.v
            · by_cases h2 : x.l = y.l
              · refine .inr (.inr ⟨h1, h2, fun h3 => hxy ?_⟩)
                cases x; cases y; simp only [Br.mk.injEq]; exact ⟨h1, h2, h3⟩
              · exact .inr (.inl ⟨h1, h2⟩)
            · exact .inl h1
          clear hxy HX HY
          rcases hcase with h1 | ⟨h0, h1⟩ | ⟨h0, h0', h1⟩
          all_goals
            go_wp2_with (fail)
            go_quiet (fail)
            have RW' : Hid (∃ k, wr.drewN nq = w.drewN k) := by
              obtain ⟨k, hk⟩ := RW.out
              exact ⟨k + nq, by rw [hk, World.drewN_drewN]⟩
            go_wp2_with (fail)
            go_ret
            exact ⟨by (rw [e2.out]; try rfl), RW'.out⟩
      · obtain rfl : j = ns.length := by omega
        have e2 : Hid (decide (ns = ms) = true) := by
          show _ = _
          rw [decide_eq_true_iff]
          have h1 := RT.out
          rw [List.take_length, HL.out, List.take_length] at h1
          exact h1
        clear hS hkw
        go_wp2_with (fail)
        go_ret
        exact ⟨by (rw [e2.out]; try rfl), RW.out⟩
  · have e1 : ((ns.length : Int) != (ms.length : Int)) = true := by simp; omega
    have e2 : decide (ns = ms) = false := by
      rw [decide_eq_false_iff_not]; intro h; exact hl (by rw [h])
    rw [e2]
    clear hl e2
    go_enter Try.func65, Try.ntmps65
    go_wp2_with (fail)
    go_ret
    exact ⟨rfl, 0, rfl⟩

set_option maxHeartbeats 400000 in
theorem same_any (w : World) (v u : Value) (D E : Dg) (hv : DgAt w NoB v D) (hu : DgAt w NoB u E) :
    Calls Try.prog 24 #[v, u] w fun e w' => e = .returned (.bool (decide (D = E))) ∧ Below w.heap.size w w' := by
  obtain ⟨a, c, rfl⟩ := hv.shape
  obtain ⟨a', c', rfl⟩ := hu.shape
  obtain ⟨w0, bx, hw0q, hbx, hsz, hB, hb0⟩ := laid w #[.slice a D.nodes.length c, .int .i64 D.root] 28
  obtain ⟨w1, by', hw1q, hby, hsz1, hB1, hb1⟩ := laid w0 #[.slice a' E.nodes.length c', .int .i64 E.root] 28
  have hb01 := hb0.trans (hb1.mono hb0.size)
  obtain ⟨x0, x1⟩ := box2 (heap_below hb1 hB)
  obtain ⟨y0, y1⟩ := box2 hB1
  obtain rfl : by' = bx + 1 := by omega
  have HV := Lib.hid (hv.below hb01).brs; have HU := Lib.hid (hu.below hb01).brs
  have B1 := Lib.hid hb01; have BX := Lib.hid hbx
  clear hv hu hB hb0 hB1 hb1 hb01 hsz1
  by_cases hr : D.root = E.root
  · have e1 : (D.root == E.root) = true := by simpa using hr
    have ed : Hid (decide (D = E) = decide (D.nodes = E.nodes)) := by
      show _ = _
      rw [Bool.eq_iff_iff, decide_eq_true_iff, decide_eq_true_iff]
      cases D; cases E; simp only [Dg.mk.injEq] at *
      exact ⟨fun h => h.1, fun h => ⟨h, hr⟩⟩
    clear hr
    go_enter Try.func24, Try.ntmps24
    go_wp2_with (fail)
    refine (equal_any w1 _ _ D.nodes E.nodes HV.out HU.out).mono ?_
    rintro e w2 ⟨rfl, k, rfl⟩
    have B2 := Lib.hid (below_drewN B1.out k)
    go_wp2_with (fail)
    go_ret
    exact ⟨by (rw [ed.out]; try rfl), by first | exact B2.out | (rw [← BX.out]; exact B2.out)⟩
  · have e1 : (D.root == E.root) = false := by simpa using hr
    have ed : Hid (decide (D = E) = false) := by
      show _ = _
      rw [decide_eq_false_iff_not]; intro h; exact hr (by rw [h])
    clear hr
    go_enter Try.func24, Try.ntmps24
    go_wp2_with (fail)
    go_ret
    exact ⟨by (rw [ed.out]; try rfl), by first | exact B1.out | (rw [← BX.out]; exact B1.out)⟩

end Go.Proofs.Ytohmibmakelclaa

namespace Go.Proofs.Ytohmibmakelclaa
set_option linter.unusedVariables false
set_option linter.unusedSimpArgs false
open Go.RowKit

/-- The number that the walk has given to a number of the table. -/
def numF (ns : List Br) (s : List T) (x : Int) : Option Int :=
  if x < 0 then none else if x < 2 then some x else if x < ns.length + 2 ∧ tr ns x.toNat ∈ s then some (idx s (tr ns x.toNat)) else none

/-- The blocks that the walk writes. -/
def VM (mb po : Nat) (S : Value) : Nat → Prop := fun k => k = mb ∨ k = po ∨ S.ownBlock = some k

abbrev visFn (pm pb pv po : Nat) : Value := .func (.func 95) #[] #[.pointer (some ⟨pm, 0, none⟩), .pointer (some ⟨pb, 0, none⟩), .pointer (some ⟨pv, 0, none⟩), .pointer (some ⟨po, 0, none⟩)]

structure VInv (w : World) (B : Nat) (ns : List Br) (pm pb pv po mb bb : Nat) (S0 : Value) (s : List T) (S : Value) : Prop where
  m : w.heap[pm]? = some (.cells #[.map (some mb)] 109 (0, 0))
  b : w.heap[pb]? = some (.cells #[.pointer (some ⟨bb, 0, none⟩)] 81 (0, 0))
  b0 : w.cell? ⟨bb, 0, none⟩ = some S0
  v : w.heap[pv]? = some (.cells #[visFn pm pb pv po] 93 (0, 0))
  o : ∃ r, w.heap[po]? = some (.cells #[S, .int .i64 r] 28 (0, 0))
  src : Brs w (fun k => B ≤ k) S0 ns
  row : w.ownsRow B 44 3 S s.length (bcells (table s))
  map : ∃ n, n ≤ s.length + 2 ∧ IntMap Try.prog 3 3 w mb n val1 (numF ns s)
  hbb : bb < B
  hpm : B ≤ pm
  hpb : B ≤ pb
  hpv : B ≤ pv
  hpo : B ≤ po
  hmb : B ≤ mb

theorem own_type {w : World} {base size n : Nat} {e : TypeId} {v : Value} {xs : List Value} (h : w.ownsRow base e size v n xs) {g : Nat} (hg : v.ownBlock = some g) : ∃ cs, w.heap[g]? = some (.cells cs e (0, 0)) := by
  rcases h.2 with ⟨rfl, -⟩ | ⟨g', cap', cur, rfl, -, hh, -⟩
  · simp [Value.ownBlock] at hg
  · have : g' = g := by simpa [Value.ownBlock] using hg
    subst this
    exact ⟨cur, hh⟩

/-- Blocks of cells of two types are two. -/
theorem ne_type {w : World} {a b : Nat} {cs cs' : Array Value} {t t' : TypeId} (h : w.heap[a]? = some (.cells cs t (0, 0))) (h' : w.heap[b]? = some (.cells cs' t' (0, 0))) (ht : t ≠ t') : a ≠ b := by
  rintro rfl
  rw [h] at h'
  injection h' with h1
  injection h1 with h2 h3
  exact ht h3

theorem ownsRow_of_block {w w' : World} {base e size n : Nat} {v : Value} {xs : List Value} (h : w.ownsRow base e size v n xs) (hb : ∀ b, v.ownBlock = some b → w'.heap[b]? = w.heap[b]?) : w'.ownsRow base e size v n xs := by
  refine ⟨h.1, ?_⟩
  rcases h.2 with hn | ⟨g, cap, cur, rfl, hbase, hgg, rest⟩
  · exact .inl hn
  · exact .inr ⟨g, cap, cur, rfl, hbase, (hb g rfl).trans hgg, rest⟩

section
variable {w : World} {B : Nat} {ns : List Br} {pm pb pv po mb bb : Nat} {S0 S : Value} {s : List T}

theorem VInv.away (h : VInv w B ns pm pb pv po mb bb S0 s S) : ¬ VM mb po S pm ∧ ¬ VM mb po S pb ∧ ¬ VM mb po S pv ∧ ¬ VM mb po S bb ∧ (∀ k, VM mb po S k → B ≤ k) ∧ (∀ k, VM mb po S k → k < w.heap.size) ∧ mb ≠ po ∧ S.ownBlock ≠ some mb ∧ S.ownBlock ≠ some po := by
  obtain ⟨n, -, hm⟩ := h.map
  obtain ⟨r, ho⟩ := h.o
  have lo : ∀ b, S.ownBlock = some b → B ≤ b ∧ b < w.heap.size := fun b e => h.row.lt b e
  have ty : ∀ (g : Nat) (cs : Array Value) (t : TypeId), w.heap[g]? = some (.cells cs t (0, 0)) → t ≠ 44 → S.ownBlock ≠ some g := by
    intro g cs t hg ht e
    obtain ⟨cs', hc⟩ := own_type h.row e
    exact ne_type hg hc ht rfl
  have mp : S.ownBlock ≠ some mb := by
    intro e
    obtain ⟨cs', hc⟩ := own_type h.row e
    exact hm.ne hc rfl
  have lt : ∀ (g : Nat) (o : Obj), w.heap[g]? = some o → g < w.heap.size := fun g o hg => by rw [Array.getElem?_eq_some_iff] at hg; exact hg.1
  refine ⟨?_, ?_, ?_, ?_, ?_, ?_, hm.ne ho, mp, ty po _ _ ho (by decide)⟩
  · rintro (e | e | e)
    · exact hm.ne h.m e.symm
    · exact ne_type h.m ho (by decide) e
    · exact ty pm _ _ h.m (by decide) e
  · rintro (e | e | e)
    · exact hm.ne h.b e.symm
    · exact ne_type h.b ho (by decide) e
    · exact ty pb _ _ h.b (by decide) e
  · rintro (e | e | e)
    · exact hm.ne h.v e.symm
    · exact ne_type h.v ho (by decide) e
    · exact ty pv _ _ h.v (by decide) e
  · have := h.hbb
    rintro (e | e | e)
    · have := h.hmb; omega
    · have := h.hpo; omega
    · have := (lo _ e).1; omega
  · rintro k (e | e | e)
    · have := h.hmb; omega
    · have := h.hpo; omega
    · exact (lo _ e).1
  · rintro k (e | e | e)
    · rw [e]; exact hm.lt
    · rw [e]; exact lt _ _ ho
    · exact (lo _ e).2

/-- The walk's own things, where other blocks are written. -/
theorem VInv.aside {F F' : Nat → Prop} {w' : World} (h : VInv w B ns pm pb pv po mb bb S0 s S) (hs : Step F w F' w') (hF : ∀ k, F k → w.heap.size ≤ k ∨ False) : VInv w' B ns pm pb pv po mb bb S0 s S := by
  have lt : ∀ (g : Nat) (o : Obj), w.heap[g]? = some o → g < w.heap.size := fun g o hg => by rw [Array.getElem?_eq_some_iff] at hg; exact hg.1
  have keep : ∀ g, g < w.heap.size → w'.heap[g]? = w.heap[g]? := fun g hg => hs.block g hg (fun hf => by rcases hF g hf with h | h; omega; exact h)
  obtain ⟨n, hn, hm⟩ := h.map
  obtain ⟨r, ho⟩ := h.o
  have hbl : Below w.heap.size w w' := ⟨hs.os, hs.tape, hs.output, hs.size, keep⟩
  exact ⟨(keep _ (lt _ _ h.m)).trans h.m, (keep _ (lt _ _ h.b)).trans h.b, cell_below hbl h.b0, (keep _ (lt _ _ h.v)).trans h.v, ⟨r, (keep _ (lt _ _ ho)).trans ho⟩, h.src.step (Step.of_below hbl _), ownsRow_below hbl h.row, ⟨n, hn, hm.block (keep _ hm.lt)⟩, h.hbb, h.hpm, h.hpb, h.hpv, h.hpo, h.hmb⟩

theorem VInv.below {w' : World} (h : VInv w B ns pm pb pv po mb bb S0 s S) (hb : Below w.heap.size w w') : VInv w' B ns pm pb pv po mb bb S0 s S :=
  h.aside (F := NoB) (F' := NoB) (Step.of_below hb NoB) (fun k hk => hk.elim)
end

/-- A tree is added to those that were left. -/
theorem numF_snoc {ns : List Br} {s : List T} (hw : Wf ns) {n : Nat} (h2 : 2 ≤ n) (hn : n < ns.length + 2) (hs : tr ns n ∉ s) (x : Int) :
    numF ns (s ++ [tr ns n]) x = if x = (n : Int) then some ((s.length : Int) + 2) else numF ns s x := by
  unfold numF
  by_cases h0 : x < 0
  · rw [if_pos h0, if_pos h0, if_neg (by omega)]
  · rw [if_neg h0, if_neg h0]
    by_cases h1 : x < 2
    · rw [if_pos h1, if_pos h1, if_neg (by omega)]
    · rw [if_neg h1, if_neg h1]
      by_cases hx : x = (n : Int)
      · subst hx
        rw [if_pos rfl, Int.toNat_natCast, if_pos ⟨by omega, by simp⟩]
        congr 1
        obtain ⟨-, -, h3⟩ := hw.stands hn
        obtain ⟨b, -, e, -⟩ := h3 h2
        rw [e] at hs ⊢
        simp only [idx, List.idxOf_append]
        rw [if_neg hs]
        simp
      · rw [if_neg hx]
        by_cases hxn : x < ns.length + 2
        · have hne : tr ns x.toNat ≠ tr ns n := by
            intro e
            have := hw.inj (by omega) hn e
            omega
          by_cases hm : tr ns x.toNat ∈ s
          · rw [if_pos ⟨hxn, List.mem_append_left _ hm⟩, if_pos ⟨hxn, hm⟩]
            congr 2
            exact idx_append (has_mem hm) _
          · rw [if_neg (fun h => hm ?_), if_neg (fun h => hm h.2)]
            have := h.2
            rw [List.mem_append, List.mem_singleton] at this
            exact this.resolve_right hne
        · rw [if_neg (fun h => hxn h.1), if_neg (fun h => hxn h.1)]

end Go.Proofs.Ytohmibmakelclaa

namespace Go.Proofs.Ytohmibmakelclaa
set_option linter.unusedVariables false
set_option linter.unusedSimpArgs false
open Go.RowKit

theorem nodup_sub_le {α : Type} [DecidableEq α] : ∀ (l m : List α), l.Nodup → (∀ x ∈ l, x ∈ m) → l.length ≤ m.length
  | [], _, _, _ => Nat.zero_le _
  | x :: l, m, hn, hs => by
    obtain ⟨h1, h2⟩ := List.nodup_cons.1 hn
    have hx : x ∈ m := hs x (by simp)
    have := nodup_sub_le l (m.erase x) h2 (fun y hy => by
      have hne : y ≠ x := by rintro rfl; exact h1 hy
      exact (List.mem_erase_of_ne hne).2 (hs y (by simp [hy])))
    rw [List.length_erase_of_mem hx] at this
    have hp : 0 < m.length := List.length_pos_of_mem hx
    simp only [List.length_cons]; omega

theorem Cl.nodup {s : List T} (h : Cl s) : s.Nodup := by
  induction h with
  | nil => exact List.nodup_nil
  | @snoc s v l h hc ok hl hh hn ih => 
    rw [List.nodup_append]
    exact ⟨ih, by simp, fun a ha b hb => by simp only [List.mem_singleton] at hb; subst hb; rintro rfl; exact hn ha⟩

theorem tr_mem (ns : List Br) (n : Nat) (h : n < ns.length + 2) : tr ns n ∈ trees ns := by
  unfold tr
  rw [List.getD_eq_getElem?_getD, List.getElem?_eq_getElem (by rw [trees_length]; exact h)]
  exact List.getElem_mem _

/-- What a walk leaves are trees of the table. -/
theorem Wf.visit_sub {ns : List Br} (hw : Wf ns) : ∀ (k n : Nat), n ≤ k → n < ns.length + 2 → ∀ s : List T, (∀ t ∈ s, t ∈ trees ns) → ∀ t ∈ (tr ns n).visit s, t ∈ trees ns := by
  intro k
  induction k with
  | zero =>
    intro n hk hn s hs t ht
    obtain rfl : n = 0 := by omega
    rw [tr_zero] at ht; exact hs t ht
  | succ k ih =>
    intro n hk hn s hs t ht
    by_cases h2 : 2 ≤ n
    · obtain ⟨-, -, h3⟩ := hw.stands hn
      obtain ⟨b, -, e, l1, l2, -⟩ := h3 h2
      have hm := tr_mem ns n hn
      rw [e] at ht hm
      simp only [T.visit] at ht
      split at ht
      · exact hs t ht
      · rcases List.mem_append.1 ht with ht | ht
        · exact ih _ (by omega) (by omega) _ (fun u hu => ih _ (by omega) (by omega) _ hs u hu) t ht
        · simp only [List.mem_singleton] at ht; rw [ht]; exact hm
    · have : n = 0 ∨ n = 1 := by omega
      rcases this with rfl | rfl
      · rw [tr_zero] at ht; exact hs t ht
      · rw [tr_one] at ht; exact hs t ht

theorem infobr : (Try.prog.info? 44).map (fun i => (i.zero, i.size, i.bytes)) = some (some (.agg #[.int .i64 0, .int .i64 0, .int .i64 0]), 3, 24) := by kernel_rfl
theorem sizebr : (Try.prog.info? 44).map (·.size) = some 3 := by kernel_rfl
abbrev br3 (v l h : Int) : Array Value := #[.int .i64 v, .int .i64 l, .int .i64 h]
theorem br3_one (v l h : Int) : ∀ u ∈ (br3 v l h).toList, u.oneCell' = true := by
  intro u hu
  simp at hu
  rcases hu with rfl | rfl | rfl <;> rfl
theorem box3 {w0 : World} {b : Nat} {v l h : Int} {t : TypeId} (hb : w0.heap[b]? = some (.cells (br3 v l h) t (0, 0))) : w0.cell? ⟨b, 0, none⟩ = some (.int .i64 v) ∧ w0.cell? ⟨b, 1, none⟩ = some (.int .i64 l) ∧ w0.cell? ⟨b, 2, none⟩ = some (.int .i64 h) :=
  ⟨by rw [cell_of_row w0 b 0 _ _ _ hb]; rfl, by rw [cell_of_row w0 b 1 _ _ _ hb]; rfl, by rw [cell_of_row w0 b 2 _ _ _ hb]; rfl⟩
theorem cell1_of {w0 : World} {b : Nat} {u : Value} {t : TypeId} (hb : w0.heap[b]? = some (.cells #[u] t (0, 0))) : w0.cell? ⟨b, 0, none⟩ = some u := by rw [cell_of_row w0 b 0 _ _ _ hb]; rfl

section
variable {B : Nat} {ns : List Br} {pm pb pv po mb bb : Nat} {S0 : Value}

set_option maxRecDepth 100000 in
set_option maxHeartbeats 1000000 in
/-- A number that the walk knows already. -/
theorem visit_known {w : World} {s : List T} {S : Value} (h : VInv w B ns pm pb pv po mb bb S0 s S) (n : Nat) (hn : n < ns.length + 2) (hl : ns.length ≤ 1099511627776) (m : Int) (hm : numF ns s n = some m) :
    Calls Try.prog 95 #[.int .i64 n, .pointer (some ⟨pm, 0, none⟩), .pointer (some ⟨pb, 0, none⟩), .pointer (some ⟨pv, 0, none⟩), .pointer (some ⟨po, 0, none⟩)] w fun e w' => e = .returned (.int .i64 m) ∧ w = w' := by
  obtain ⟨c, -, hmap⟩ := h.map
  have hr := hmap.look_ok law1 Try.underlying109 Try.underlying3 (zeroInt w) (n : Int) (key1 _ ⟨by omega, by omega⟩)
  rw [hm] at hr
  have c0 := cell1_of h.m
  simp only [val1, Option.getD_some, Option.isSome_some] at hr
  clear h hmap hm
  go_enter Try.func95, Try.ntmps95
  go_wp2_with (fail)
  go_ret
  exact ⟨rfl, rfl⟩

/-- What a call of the walk at a number does. -/
def VisDoes (B : Nat) (ns : List Br) (pm pb pv po mb bb : Nat) (S0 : Value) (x : Int) (s s' : List T) (r : Int) : Prop :=
  ∀ (w : World) (S : Value), VInv w B ns pm pb pv po mb bb S0 s S → Calls Try.prog 95 #[.int .i64 x, .pointer (some ⟨pm, 0, none⟩), .pointer (some ⟨pb, 0, none⟩), .pointer (some ⟨pv, 0, none⟩), .pointer (some ⟨po, 0, none⟩)] w fun e w' =>
    e = .returned (.int .i64 r) ∧ ∃ S', VInv w' B ns pm pb pv po mb bb S0 s' S' ∧ Step (VM mb po S) w (VM mb po S') w'

set_option maxRecDepth 100000 in
set_option maxHeartbeats 2000000 in
/-- A branch that the walk has not met before. -/
theorem visit_new (i : Nat) (hi : i < ns.length) (hlen : ns.length ≤ 1099511627776) (x : Br) (hx : ns[i] = x) (lo hi' : Int) (s s1 s2 s3 : List T)
    (L : VisDoes B ns pm pb pv po mb bb S0 x.l s s1 lo) (H : VisDoes B ns pm pb pv po mb bb S0 x.h s1 s2 hi')
    (hnone : numF ns s ((i : Int) + 2) = none) (htab : table s3 = table s2 ++ [⟨x.v, lo, hi'⟩]) (hl3 : s3.length = s2.length + 1) (hnum : ∀ y, numF ns s3 y = if y = (i : Int) + 2 then some ((s2.length : Int) + 2) else numF ns s2 y) (hsz : s2.length ≤ ns.length + 2) :
    VisDoes B ns pm pb pv po mb bb S0 ((i : Int) + 2) s s3 ((s2.length : Int) + 2) := by
  intro w S h
  obtain ⟨a, c, hS0⟩ := h.src.shape
  have hcap := (by have := h.src; rw [hS0] at this; exact this.len : ns.length ≤ c ∧ c ≤ maxLen ∧ (a = none → ns.length = 0 ∧ c = 0))
  obtain ⟨sb, off, hSa, hsb, hsm, d0, d1, d2⟩ := (by have := h.src; rw [hS0] at this; exact this.get i hi : ∃ b off, a = some ⟨b, off, none⟩ ∧ b < w.heap.size ∧ ¬ B ≤ b ∧ w.cell? ⟨b, off + i * 3, none⟩ = some (.int .i64 ns[i].v) ∧ w.cell? ⟨b, off + i * 3 + 1, none⟩ = some (.int .i64 ns[i].l) ∧ w.cell? ⟨b, off + i * 3 + 2, none⟩ = some (.int .i64 ns[i].h))
  subst hSa
  rw [hx] at d0 d1 d2
  obtain ⟨n0, hn0, hmap⟩ := h.map
  have hr := hmap.look_ok law1 Try.underlying109 Try.underlying3 (zeroInt w) ((i : Int) + 2) (key1 _ ⟨by omega, by omega⟩)
  rw [hnone] at hr
  simp only [val1, Option.getD_none, Option.isSome_none] at hr
  have c0 := cell1_of h.m
  have c1 := cell1_of h.b
  have c3 := h.b0
  rw [hS0] at c3
  obtain ⟨w1, bx, hw1q, hbx, hsz1, hX, hb1⟩ := laid w (br3 x.v x.l x.h) 44
  have c2 := cell1_of (heap_below hb1 h.v)
  obtain ⟨y0, y1, y2⟩ := box3 hX
  have HI1 := Lib.hid (h.below hb1)
  have HX1 := Lib.hid hX; have HB1 := Lib.hid hb1
  have VL : Hid (∀ k, VM mb po S k → k < w.heap.size) := h.away.2.2.2.2.2.1
  have HTAB := Lib.hid htab; have HL3 := Lib.hid hl3; have HNUM := Lib.hid hnum; have HL := Lib.hid L; have HH := Lib.hid H
  have hi0 : (0 : Int) ≤ (i : Int) := by omega
  have hi1 : (i : Int) < (ns.length : Int) := by omega
  have hi2 : (ns.length : Int) ≤ 1099511627776 := by omega
  clear h hmap hnone htab hl3 hnum L H hX hb1 hx hcap hS0 hsb hsm
  go_enter Try.func95, Try.ntmps95
  go_wp2_with (with_reducible refine wpList_store_last rfl 44 (.tmp 9) (.tmp 27) rfl (br3 0 0 0) (br3 x.v x.l x.h) rfl rfl sizebr rfl (br3_one _ _ _) ?_)
  refine (HL.out w1 S HI1.out).mono ?_
  rintro e w2 ⟨rfl, S1, hI2, hs2⟩
  have hnb : ∀ k, VM mb po S k → k ≠ bx := fun k hk => by have := VL.out k hk; omega
  have HX2 := (hs2.block bx (by omega) (fun hk => hnb bx hk rfl)).trans HX1.out
  have HX2' := Lib.hid HX2
  obtain ⟨z0, z1, z2⟩ := box3 HX2
  have c4 := cell1_of hI2.v
  have HI2 := Lib.hid hI2; have HS2 := Lib.hid hs2
  have A1 : Hid (¬ VM mb po S1 bx) := hs2.away (by omega) (fun hk => hnb bx hk rfl)
  clear hI2 hs2 hnb HX2 c0 c1 c2 c3 d0 d1 d2 hr y0 y1 y2
  go_wp2_with (fail)
  refine (HH.out w2 S1 HI2.out).mono ?_
  rintro e w3 ⟨rfl, S2, hI3, hs3⟩
  have HX3 := (hs3.block bx (by have := HX2'.out; rw [Array.getElem?_eq_some_iff] at this; exact this.1) A1.out).trans HX2'.out
  obtain ⟨x0, x1, x2⟩ := box3 HX3
  obtain ⟨r3, ho3⟩ := hI3.o
  obtain ⟨o0, -⟩ := box2 ho3
  obtain ⟨b1, b2, b3, b4, b5, b6, b7, b8, b9⟩ := hI3.away
  have b10 : S2.ownBlock ≠ some pm := fun e => b1 (.inr (.inr e))
  obtain ⟨sa, sc, hS2⟩ : ∃ sa sc, S2 = .slice sa s2.length sc := by obtain ⟨ao, cap, e, -⟩ := ownsRow_shape hI3.row; exact ⟨ao, cap, e⟩
  have hge := hI3.row
  have N3 : Hid (∀ j u, ([.int .i64 x.v, .int .i64 lo, .int .i64 hi'] : List Value)[j]? = some u → (w3.alloc (.cells (br3 x.v lo hi') 44)).cell? ((⟨w3.heap.size, 0, none⟩ : Addr).add j) = some u) := by
    intro j u hu
    rw [Addr.add_lit, World.cell?_alloc_at _ _ _ _ rfl]
    simpa using hu
  have R3 : Hid ((w3.alloc (.cells (br3 x.v lo hi') 44)).ownsRow B 44 3 (.slice sa s2.length sc) s2.length (bcells (table s2))) := by show World.ownsRow _ _ _ _ _ _ _; rw [← hS2]; exact hI3.row.alloc _
  obtain ⟨i0, hi0', hz0, hz1, hz2⟩ := info_parts infobr
  have HI3 := Lib.hid hI3; have HS3 := Lib.hid hs3
  have HB : Hid (B ≤ w3.heap.size) := by
    have h1 := hI3.hpm
    have h2 := hI3.m
    rw [Array.getElem?_eq_some_iff] at h2
    show _ ≤ _
    have := h2.1; omega
  have Q1 := Lib.hid b1; have Q7 := Lib.hid b7; have Q8 := Lib.hid b8; have Q9 := Lib.hid b9; have Q10 := Lib.hid b10; have HS2' := Lib.hid hS2; have HO3 := Lib.hid ho3
  have HPO : Hid (po < w3.heap.size) := by have := ho3; rw [Array.getElem?_eq_some_iff] at this; exact this.1
  have HPM : Hid (pm < w3.heap.size) := by have := hI3.m; rw [Array.getElem?_eq_some_iff] at this; exact this.1
  have HPM' : Hid (pm ≠ po) := fun e => b1 (.inr (.inl e))
  have HPM2 : Hid (pm ≠ mb) := fun e => b1 (.inl e)
  rw [hS2] at o0
  clear hI3 hs3 HX3 ho3 b1 b2 b3 b4 b5 b6 b7 b8 b9 b10 hge c4 z0 z1 z2
  go_wp2_with (at_builtin; refine wpList_append_own_at _ rfl (.tmp 37) (.tmp 43) 26 rfl B 44 i0 (.agg #[.int .i64 0, .int .i64 0, .int .i64 0]) 3 24 Try.underlying26 hi0' hz0 hz1 hz2 rfl (by decide) (.slice sa s2.length sc) s2.length (bcells (table s2)) rfl R3.out ⟨w3.heap.size, 0, none⟩ 1 1 [.int .i64 x.v, .int .i64 lo, .int .i64 hi'] rfl rfl N3.out (br3_one _ _ _) (by unfold maxLen; omega) (by omega) (by have := HB.out; simp; omega) ?_)
  intro v' w4 hown4 hg4 _ hat4
  rw [show Value.slice sa s2.length sc = S2 from HS2'.out.symm] at hg4 hat4
  obtain ⟨q, hq⟩ : ∃ q, s2.length + 1 = q := ⟨_, rfl⟩
  rw [hq] at hown4
  obtain ⟨va, vc, rfl⟩ : ∃ va vc, v' = .slice va q vc := by obtain ⟨ao, cap, e, -⟩ := ownsRow_shape hown4; exact ⟨ao, cap, e⟩
  have hz3 : (w3.alloc (.cells (br3 x.v lo hi') 44)).heap.size = w3.heap.size + 1 := by simp
  have keep4 : ∀ k, k < w3.heap.size → S2.ownBlock ≠ some k → w4.heap[k]? = w3.heap[k]? := fun k hk hne => (hg4.block k (by rw [hz3]; omega) (fun e => hne e.symm)).trans (Below.heap_alloc w3 _ k hk)
  have ho4 := (keep4 po HPO.out Q9.out).trans HO3.out
  have hm4 := (keep4 pm HPM.out Q10.out).trans HI3.out.m
  obtain ⟨o0', -⟩ := box2 ho4
  have fz := frozen_box ho4 0
  obtain ⟨w5, hw5⟩ : ∃ w5, w4.setCell ⟨po, 0, none⟩ (.slice va q vc) = w5 := ⟨_, rfl⟩
  have ho5 : w5.heap[po]? = some (.cells #[.slice va q vc, .int .i64 r3] 28 (0, 0)) := by rw [← hw5, heap_setCell_same w4 po 0 _ _ _ ho4]; rfl
  have keep5 : ∀ k, k ≠ po → w5.heap[k]? = w4.heap[k]? := fun k hk => by rw [← hw5]; exact heap_setCell_other w4 ⟨po, 0, none⟩ k _ hk
  have hm5 := (keep5 pm HPM'.out).trans hm4
  obtain ⟨n3, hn3, hmap3⟩ := HI3.out.map
  have hmap5 : IntMap Try.prog 3 3 w5 mb n3 val1 (numF ns s2) := hmap3.block ((keep5 mb Q7.out).trans (keep4 mb hmap3.lt Q8.out))
  obtain ⟨w6, hrun, hmap6, hg6, hsz6⟩ := hmap5.store law1 Try.underlying109 Try.underlying3 (by unfold maxLen; omega) val1_inj ((i : Int) + 2) (key1 _ ⟨by omega, by omega⟩) ((q : Int) + 1) (I64.wf ⟨by omega, by omega⟩)
  simp only [val1] at hrun
  have hr6 := hmap6.look law1 Try.underlying109 Try.underlying3 (zeroInt w6) ((i : Int) + 2) (key1 _ ⟨by omega, by omega⟩) ((q : Int) + 1) (by simp)
  simp only [val1] at hr6
  have hm6 := (hg6.block pm (by have := hm5; rw [Array.getElem?_eq_some_iff] at this; exact this.1) (fun e => HPM2.out (by cases e; rfl))).trans hm5
  have p4 := cell1_of hm4
  have p5 := cell1_of hm5
  have p6 := cell1_of hm6
  obtain ⟨u5, -⟩ := box2 ho5
  have hq1 : q ≤ 1099511627779 := by omega
  have HQ := Lib.hid hq; have HO5 := Lib.hid ho5; have HMAP6 := Lib.hid hmap6; have HG6 := Lib.hid hg6; have HOWN4 := Lib.hid hown4; have HG4 := Lib.hid hg4; have HAT4 := Lib.hid hat4; have K4 := Lib.hid keep4; have K5 := Lib.hid keep5; have HN3 := Lib.hid hn3; have HM6 := Lib.hid hm6; have HW5 := Lib.hid hw5
  clear hq ho4 hm4 ho5 hm5 hm6 hmap3 hmap5 hmap6 hg6 hown4 hg4 hat4 keep4 keep5 hn3 o0 x0 x1 x2 R3 N3 hS2
  go_wp2_with (fail)
  go_ret
  have hq := HQ.out
  have hI3 := HI3.out
  obtain ⟨b1, b2, b3, b4, b5, b6, b7, b8, b9⟩ := hI3.away
  have hbB := hI3.hbb
  have hat := HAT4.out
  have lt3 : ∀ (g : Nat) (o : Obj), w3.heap[g]? = some o → g < w3.heap.size := fun g o hg => by rw [Array.getElem?_eq_some_iff] at hg; exact hg.1
  have ST : Step (VM mb po S2) w3 (VM mb po (.slice va q vc)) w6 := by
    have t1 : Step (VM mb po S2) w3 (VM mb po S2) w4 := ((Step.refl (VM mb po S2) w3).alloc _).grown HG4.out (fun k e => .inl (.inr (.inr e)))
    have t2 : Step (VM mb po S2) w3 (VM mb po S2) w5 := by rw [← HW5.out]; exact t1.setCell (p := ⟨po, 0, none⟩) (.inl (.inr (.inl rfl))) _
    have t3 := t2.grown HG6.out (fun k e => .inl (.inl (by cases e; rfl)))
    refine t3.to (fun _ h => h) (fun k hk => ?_)
    rcases hk with hk | hk | hk
    · exact .inl (.inl hk)
    · exact .inl (.inr (.inl hk))
    · rcases hat with e | e
      · exact .inl (.inr (.inr (e ▸ hk)))
      · rw [e] at hk; cases hk; exact .inr (by simp)
  have keep6 : ∀ k, k < w3.heap.size → ¬ VM mb po S2 k → w6.heap[k]? = w3.heap[k]? := fun k hk hn => ST.block k hk hn
  have hgt : ∀ g, (Value.slice va q vc).ownBlock = some g → w6.heap[g]? = w4.heap[g]? := by
    intro g hg
    obtain ⟨cs, hcs⟩ := own_type HOWN4.out hg
    have hpo : g ≠ po := by
      intro e
      have ho := HO5.out
      have hk := K4.out po HPO.out b9
      rw [e, hk] at hcs
      obtain ⟨r', ho'⟩ := hI3.o
      exact ne_type hcs ho' (by decide) rfl
    have hmb : g ≠ mb := by
      intro e
      obtain ⟨n', -, hm'⟩ := hI3.map
      have := (hm'.block (K4.out mb hm'.lt b8)).ne hcs
      exact this e.symm
    have hlt : g < w5.heap.size := by
      have h1 : g < w4.heap.size := by rw [Array.getElem?_eq_some_iff] at hcs; exact hcs.1
      rw [← HW5.out]; simpa [World.setCell] using h1
    exact (HG6.out.block g hlt (fun e => hmb (by cases e; rfl))).trans (K5.out g hpo)
  refine ⟨by rw [show ((s2.length : Int) + 2) = (q : Int) + 1 by omega]; rfl, .slice va q vc, ⟨HM6.out, (keep6 _ (lt3 _ _ hI3.b) b2).trans hI3.b, ?_, (keep6 _ (lt3 _ _ hI3.v) b3).trans hI3.v, ⟨r3, ?_⟩, ?_, ?_, ⟨n3 + 1, ?_, ?_⟩, hI3.hbb, hI3.hpm, hI3.hpb, hI3.hpv, hI3.hpo, hI3.hmb⟩, (((Step.of_below HB1.out (VM mb po S)).trans HS2.out).trans HS3.out).trans ST⟩
  · rw [World.cell?_of_block (keep6 bb (World.block_lt_of_cell? w3 _ hI3.b0) b4)]; exact hI3.b0
  · exact (HG6.out.block po (by have := HO5.out; rw [Array.getElem?_eq_some_iff] at this; exact this.1) (fun e => b7 (by cases e; rfl))).trans HO5.out
  · refine hI3.src.step ((ST.wide (fun k hk => b5 k hk)).to (fun _ h => h) (fun k hk => .inl hk))
  · have hr := ownsRow_of_block (w' := w6) HOWN4.out hgt
    rw [HL3.out, HTAB.out, bcells_append, hq]
    exact hr
  · have := HN3.out; have := HL3.out; omega
  · refine HMAP6.out.congr (fun y => ?_)
    rw [HNUM.out y]
    by_cases hy : y = (i : Int) + 2
    · rw [if_pos hy, if_pos hy]; congr 1; omega
    · rw [if_neg hy, if_neg hy]


theorem visit_ge {t : T} {s : List T} (ok : t.Ok) (hc : Cl s) : s.length ≤ (t.visit s).length := by
  obtain ⟨-, -, r, e⟩ := t.visit_cl ok hc
  rw [e]; simp

theorem visit_any (hw : Wf ns) (hlen : ns.length ≤ 1099511627776) : ∀ (k n : Nat), n ≤ k → n < ns.length + 2 → ∀ s : List T, Cl s → (∀ t ∈ s, t ∈ trees ns) →
    VisDoes B ns pm pb pv po mb bb S0 n s ((tr ns n).visit s) (idx ((tr ns n).visit s) (tr ns n)) := by
  intro k
  induction k with
  | zero =>
    intro n hk hn s hc hs w S h
    obtain rfl : n = 0 := by omega
    refine (visit_known h 0 hn hlen 0 (by simp [numF])).mono ?_
    rintro e w' ⟨rfl, rfl⟩
    rw [tr_zero]
    exact ⟨rfl, S, h, Step.refl _ _⟩
  | succ k ih =>
    intro n hk hn s hc hs
    by_cases h2 : 2 ≤ n
    · obtain ⟨hok, -, h3⟩ := hw.stands hn
      obtain ⟨b, hb, e, l1, l2, p1, p2, p3, p4, p5, p6, p7⟩ := h3 h2
      by_cases hm : tr ns n ∈ s
      · intro w S h
        refine (visit_known h n hn hlen (idx s (tr ns n)) ?_).mono ?_
        · unfold numF
          rw [if_neg (by omega), if_neg (by omega), Int.toNat_natCast, if_pos ⟨by omega, hm⟩]
        · rintro e' w' ⟨rfl, rfl⟩
          have hv : (tr ns n).visit s = s := by rw [e] at hm ⊢; simp only [T.visit]; rw [if_pos hm]
          rw [hv]
          exact ⟨rfl, S, h, Step.refl _ _⟩
      · -- a branch that was not met before
        have hv : (tr ns n).visit s = (tr ns b.h.toNat).visit ((tr ns b.l.toNat).visit s) ++ [tr ns n] := by rw [e] at hm ⊢; simp only [T.visit]; rw [if_neg hm]
        have okl := (hw.stands (n := b.l.toNat) (by omega)).1
        have okh := (hw.stands (n := b.h.toNat) (by omega)).1
        obtain ⟨hc1, has1, r1, e1⟩ := T.visit_cl okl hc
        obtain ⟨hc2, has2, r2, e2⟩ := T.visit_cl okh hc1
        have hs1 := hw.visit_sub k b.l.toNat (by omega) (by omega) s hs
        have hs2 := hw.visit_sub k b.h.toNat (by omega) (by omega) _ hs1
        have hsz2 := nodup_sub_le _ _ hc2.nodup hs2
        rw [trees_length] at hsz2
        have hnew : tr ns n ∉ (tr ns b.h.toNat).visit ((tr ns b.l.toNat).visit s) := by
          have hcl := (T.visit_cl hok hc).1
          rw [hv] at hcl
          have := hcl.nodup
          rw [List.nodup_append] at this
          exact fun hmem => this.2.2 _ hmem _ (by simp) rfl
        have htab : table ((tr ns b.h.toNat).visit ((tr ns b.l.toNat).visit s) ++ [tr ns n]) = table ((tr ns b.h.toNat).visit ((tr ns b.l.toNat).visit s)) ++ [⟨b.v, idx ((tr ns b.l.toNat).visit s) (tr ns b.l.toNat), idx ((tr ns b.h.toNat).visit ((tr ns b.l.toNat).visit s)) (tr ns b.h.toNat)⟩] := by
          rw [e, table_snoc hc2 (by rw [e2]; exact has1.mono (fun x hx => List.mem_append_left _ hx)) has2]
          rw [show idx ((tr ns b.h.toNat).visit ((tr ns b.l.toNat).visit s)) (tr ns b.l.toNat) = idx ((tr ns b.l.toNat).visit s) (tr ns b.l.toNat) by rw [e2, idx_append has1]]
          rw [show ((b.v.toNat : Nat) : Int) = b.v from Int.toNat_of_nonneg p3]
        have hidx : idx ((tr ns b.h.toNat).visit ((tr ns b.l.toNat).visit s) ++ [tr ns n]) (tr ns n) = ((tr ns b.h.toNat).visit ((tr ns b.l.toNat).visit s)).length + 2 := by
          rw [e] at hnew ⊢
          simp only [idx, List.idxOf_append]
          rw [if_neg hnew]; simp
        have hnum := fun x => numF_snoc hw h2 hn hnew x
        have IHL := ih b.l.toNat (by omega) (by omega) s hc hs
        have IHH := ih b.h.toNat (by omega) (by omega) _ hc1 hs1
        rw [Int.toNat_of_nonneg p1] at IHL
        rw [Int.toNat_of_nonneg p2] at IHH
        have hnone : numF ns s (n : Int) = none := by
          unfold numF
          rw [if_neg (by omega), if_neg (by omega), Int.toNat_natCast, if_neg (fun h => hm h.2)]
        rw [hv, hidx]
        obtain ⟨i, rfl⟩ : ∃ i, n = i + 2 := ⟨n - 2, by omega⟩
        rw [show i + 2 - 2 = i by omega] at hb
        obtain ⟨hib, hbe⟩ := List.getElem?_eq_some_iff.1 hb
        have hcast : ((i + 2 : Nat) : Int) = (i : Int) + 2 := by omega
        rw [hcast] at hnum hnone
        rw [show ((((tr ns b.h.toNat).visit ((tr ns b.l.toNat).visit s)).length + 2 : Nat) : Int) = (((tr ns b.h.toNat).visit ((tr ns b.l.toNat).visit s)).length : Int) + 2 by omega, hcast]
        exact visit_new i hib hlen b hbe _ _ s _ _ _ IHL IHH hnone htab (by simp) hnum hsz2
    · have hcase : n = 0 ∨ n = 1 := by omega
      intro w S h
      rcases hcase with rfl | rfl
      · refine (visit_known h 0 hn hlen 0 (by simp [numF])).mono ?_
        rintro e w' ⟨rfl, rfl⟩
        rw [tr_zero]
        exact ⟨rfl, S, h, Step.refl _ _⟩
      · refine (visit_known h 1 hn hlen 1 (by simp [numF])).mono ?_
        rintro e w' ⟨rfl, rfl⟩
        rw [tr_one]
        exact ⟨rfl, S, h, Step.refl _ _⟩
end

end Go.Proofs.Ytohmibmakelclaa

namespace Go.Proofs.Ytohmibmakelclaa
set_option linter.unusedVariables false
set_option linter.unusedSimpArgs false
open Go.RowKit

abbrev dg0 : Array Value := #[.slice none 0 0, .int .i64 0]
theorem sizedg : (Try.prog.info? 28).map (·.size) = some 2 := by kernel_rfl

/-- Two cells of a block are written. -/
theorem put2 {w0 w : World} {b : Nat} {a0 a1 c0 c1 : Value} {t : TypeId} (h : w.heap[b]? = some (.cells #[a0, a1] t (0, 0))) (hs : Below w0.heap.size w0 w) (hb : w0.heap.size ≤ b) :
    ∃ w', (w.setCell ⟨b, 0, none⟩ c0).setCell ⟨b, 1, none⟩ c1 = w' ∧ w'.heap[b]? = some (.cells #[c0, c1] t (0, 0)) ∧ Below w0.heap.size w0 w' ∧ Step (fun k => k = b) w (fun k => k = b) w' := by
  refine ⟨_, rfl, ?_, (hs.setCell hb _).setCell hb _, ((Step.refl (fun k => k = b) w).setCell (.inl rfl) _).setCell (.inl rfl) _⟩
  have h0 := heap_setCell_same w b 0 _ _ c0 h
  rw [heap_setCell_same _ b 1 _ _ c1 h0]; rfl

theorem brs_of_own {w : World} {M : Nat → Prop} {base : Nat} {v : Value} {ns : List Br} (h : w.ownsRow base 44 3 v ns.length (bcells ns)) (hM : ∀ b, v.ownBlock = some b → ¬ M b) : Brs w M v ns := by
  obtain ⟨ao, cap, rfl, hc, hm, h0, hx⟩ := ownsRow_shape h
  refine ⟨ao, cap, rfl, hc, hm, h0, ?_⟩
  cases ao with
  | none =>
    have := (h0 rfl).1
    exact .inl (by rw [List.length_eq_zero_iff] at this; rw [this]; rfl)
  | some ad =>
    obtain ⟨b, off, sp⟩ := ad
    obtain ⟨e1, e2, e3, e4⟩ := hx _ rfl
    simp only at e1 e2 e3
    subst e1; subst e2
    exact .inr ⟨b, 0, rfl, (h.lt b e3).2, hM b e3, fun j u hu => by have := e4 j u hu; rwa [Addr.add_lit] at this⟩

theorem table_in {s : List T} (hc : Cl s) (hl : s.length ≤ 4611686018427387904) : ∀ b ∈ table s, b.In := by
  intro b hb
  obtain ⟨t, ht, rfl⟩ := List.mem_map.1 hb
  obtain ⟨v, l, r, rfl, ok, h1, h2⟩ := hc.parts t ht
  have i1 := idx_lt h1
  have i2 := idx_lt h2
  have := ok.1
  simp only [brOf]
  exact ⟨⟨by simp only; omega, by simp only; omega⟩, ⟨by simp only; omega, by simp only; omega⟩, ⟨by simp only; omega, by simp only; omega⟩⟩

theorem canon_in {t : T} (ok : t.Ok) (hl : (t.visit []).length ≤ 4611686018427387904) : t.canon.In := by
  have hi := idx_lt (t.visit_cl ok .nil).2.1
  exact ⟨table_in (T.canon_cl ok) hl, ⟨by simp only [T.canon]; omega, by simp only [T.canon]; omega⟩⟩

set_option maxRecDepth 100000 in
set_option maxHeartbeats 1000000 in
theorem diagram_any (w : World) (bb : Nat) (S0 : Value) (ns : List Br) (hc : w.cell? ⟨bb, 0, none⟩ = some S0) (hs : Brs w NoB S0 ns) (hw : Wf ns) (hlen : ns.length ≤ 1099511627776) (n : Nat) (hn : n < ns.length + 2) :
    Calls Try.prog 64 #[.pointer (some ⟨bb, 0, none⟩), .int .i64 n] w fun e w' => ∃ r, e = .returned r ∧ (∀ M : Nat → Prop, (∀ b, M b → b < w.heap.size) → DgAt w' M r (tr ns n).canon) ∧ Below w.heap.size w w' := by
  have hmm := @run_makeMap Try.prog
  obtain ⟨w0, b0, e0, hb0, z0, h0, B0⟩ := laid w #[.pointer (some ⟨bb, 0, none⟩)] 81
  obtain ⟨w1, b1, e1, hb1, z1, h1, B1⟩ := laid w0 dg0 28
  obtain rfl : b1 = b0 + 1 := by omega
  replace z1 : w1.heap.size = b0 + 2 := by omega
  clear hb1
  obtain ⟨w2, b2, e2, hb2, z2, h2, B2⟩ := laid w1 dg0 28
  obtain rfl : b2 = b0 + 2 := by omega
  replace z2 : w2.heap.size = b0 + 3 := by omega
  clear hb2
  obtain ⟨w3, e3⟩ : ∃ w3, w2.alloc (.map #[] 0) = w3 := ⟨_, rfl⟩
  have m3 : IntMap Try.prog 3 3 w3 (b0 + 3) 0 val1 (fun _ => none) := by
    have := IntMap.made (P := Try.prog) (k := 3) (e := 3) (kv := val1) w2
    rw [e3, z2] at this; exact this
  have B3 : Below w2.heap.size w2 w3 := by rw [← e3]; exact (Below.refl _ _).alloc (Nat.le_refl _) _
  have z3 : w3.heap.size = b0 + 4 := by rw [← e3]; simp [z2]
  obtain ⟨w4, r4, m4, g4, z4⟩ := m3.store law1 Try.underlying109 Try.underlying3 (by unfold maxLen; omega) val1_inj 0 (key1 _ ⟨by omega, by omega⟩) 0 (I64.wf ⟨by omega, by omega⟩)
  obtain ⟨w5, r5, m5, g5, z5⟩ := m4.store law1 Try.underlying109 Try.underlying3 (by unfold maxLen; omega) val1_inj 1 (key1 _ ⟨by omega, by omega⟩) 1 (I64.wf ⟨by omega, by omega⟩)
  simp only [val1] at r4 r5
  have keep5 : ∀ k, k < b0 + 3 → w5.heap[k]? = w2.heap[k]? := fun k hk => (g5.block k (by omega) (fun e => by cases e; omega)).trans ((g4.block k (by omega) (fun e => by cases e; omega)).trans (B3.block k (by omega)))
  obtain ⟨w6, b6, e6, hb6, z6, h6, B6⟩ := laid w5 #[.map none] 109
  obtain rfl : b6 = b0 + 4 := by omega
  replace z6 : w6.heap.size = b0 + 5 := by omega
  replace z5 : w5.heap.size = b0 + 4 := by omega
  replace z4 : w4.heap.size = b0 + 4 := by omega
  clear hb6
  obtain ⟨w7, e7⟩ : ∃ w7, w6.setCell ⟨b0 + 4, 0, none⟩ (.map (some (b0 + 3))) = w7 := ⟨_, rfl⟩
  have h7 : w7.heap[b0 + 4]? = some (.cells #[.map (some (b0 + 3))] 109 (0, 0)) := by rw [← e7, heap_setCell_same w6 (b0 + 4) 0 _ _ _ h6]; rfl
  have z7 : w7.heap.size = b0 + 5 := by rw [← e7]; simp [World.setCell, z6]
  obtain ⟨w8, b8, e8, hb8, z8, h8, B8⟩ := laid w7 #[.nilFunc] 93
  obtain rfl : b8 = b0 + 5 := by omega
  replace z8 : w8.heap.size = b0 + 6 := by omega
  clear hb8
  obtain ⟨w9, e9⟩ : ∃ w9, w8.setCell ⟨b0 + 5, 0, none⟩ (visFn (b0 + 4) b0 (b0 + 5) (b0 + 2)) = w9 := ⟨_, rfl⟩
  have h9 : w9.heap[b0 + 5]? = some (.cells #[visFn (b0 + 4) b0 (b0 + 5) (b0 + 2)] 93 (0, 0)) := by rw [← e9, heap_setCell_same w8 (b0 + 5) 0 _ _ _ h8]; rfl
  have x9 := cell1_of h9
  have z9 : w9.heap.size = b0 + 6 := by rw [← e9]; simpa [World.setCell] using z8
  have k7 : ∀ k, k ≠ b0 + 4 → w7.heap[k]? = w6.heap[k]? := fun k hk => by rw [← e7]; exact heap_setCell_other w6 ⟨b0 + 4, 0, none⟩ k _ hk
  have k9 : ∀ k, k ≠ b0 + 5 → w9.heap[k]? = w8.heap[k]? := fun k hk => by rw [← e9]; exact heap_setCell_other w8 ⟨b0 + 5, 0, none⟩ k _ hk
  have keep9 : ∀ k, k < b0 + 4 → w9.heap[k]? = w5.heap[k]? := fun k hk => (k9 k (by omega)).trans ((B8.block k (by omega)).trans ((k7 k (by omega)).trans (B6.block k (by omega))))
  have m9 : IntMap Try.prog 3 3 w9 (b0 + 3) 2 val1 (numF ns []) := by
    refine (m5.block (keep9 (b0 + 3) (by omega))).congr (fun x => ?_)
    unfold numF
    by_cases h0 : x < 0
    · rw [if_pos h0, if_neg (by omega), if_neg (by omega)]
    · rw [if_neg h0]
      by_cases h1 : x < 2
      · rw [if_pos h1]
        by_cases hx : x = 1
        · rw [if_pos hx, hx]
        · rw [if_neg hx, if_pos (by omega), show x = 0 by omega]
      · rw [if_neg h1, if_neg (by simp), if_neg (by omega), if_neg (by omega)]
  have BW : Below w.heap.size w w9 := by
    refine ⟨?_, ?_, ?_, by omega, fun k hk => ?_⟩
    · rw [← e9]; show w8.os = w.os; rw [B8.os, ← e7]; show w6.os = w.os; rw [B6.os, g5.os, g4.os, B3.os, B2.os, B1.os, B0.os]
    · rw [← e9]; show w8.tape = w.tape; rw [B8.tape, ← e7]; show w6.tape = w.tape; rw [B6.tape, g5.tape, g4.tape, B3.tape, B2.tape, B1.tape, B0.tape]
    · rw [← e9]; show w8.output = w.output; rw [B8.output, ← e7]; show w6.output = w.output; rw [B6.output, g5.output, g4.output, B3.output, B2.output, B1.output, B0.output]
    · rw [keep9 k (by omega), keep5 k (by omega), B2.block k (by omega), B1.block k (by omega), B0.block k (by omega)]
  have hbbl : bb < w.heap.size := World.block_lt_of_cell? w _ hc
  have old9 : ∀ k, k < b0 + 3 → w9.heap[k]? = w2.heap[k]? := fun k hk => (keep9 k (by omega)).trans (keep5 k hk)
  have INV : Hid (VInv w9 b0 ns (b0 + 4) b0 (b0 + 5) (b0 + 2) (b0 + 3) bb S0 [] (.slice none 0 0)) := by
    refine ⟨?_, ?_, ?_, h9, ⟨0, ?_⟩, ?_, World.ownsRow_nil _ _ _ _, ⟨2, Nat.le_refl _, m9⟩, by omega, by omega, by omega, by omega, by omega, by omega⟩
    · exact (k9 _ (by omega)).trans ((B8.block _ (by omega)).trans h7)
    · exact (old9 b0 (by omega)).trans ((B2.block b0 (by omega)).trans ((B1.block b0 (by omega)).trans h0))
    · exact cell_below BW hc
    · exact (old9 (b0 + 2) (by omega)).trans h2
    · exact hs.step ((Step.of_below BW NoB).to (fun _ h => h) (fun k hk => .inr (by omega)))
  have R9 : Hid (w9.heap[b0 + 1]? = some (.cells dg0 28 (0, 0))) := (old9 (b0 + 1) (by omega)).trans ((B2.block _ (by omega)).trans h1)
  have x6 := cell1_of h6
  have f6 := frozen_box h6 0
  have x8 := cell1_of h8
  have f8 := frozen_box h8 0
  have e3' : (w1.alloc (.cells dg0 28)).alloc (.map #[] 0) = w3 := by rw [e2]; exact e3
  have HB := Lib.hid BW; have HB0 := Lib.hid hb0; have Z9 := Lib.hid z9
  clear e2 e3 h7 keep5 hs hc g4 g5 m5 m4 m3 h9 k7 k9 keep9 m9 BW hbbl old9 z9
  go_enter Try.func64, Try.ntmps64
  go_wp2_with (fail)
  refine (visit_any hw hlen n n (Nat.le_refl _) hn [] .nil (fun t ht => by cases ht) w9 _ INV.out).mono ?_
  rintro e w10 ⟨rfl, S', hI, hs⟩
  obtain ⟨r, ho⟩ := hI.o
  have hsz : ((tr ns n).visit []).length ≤ ns.length + 2 := by
    have := nodup_sub_le _ _ (T.canon_cl (hw.stands hn).1).nodup (hw.visit_sub n n (Nat.le_refl _) hn [] (fun t ht => by cases ht))
    rwa [trees_length] at this
  have hst : Step (VM (b0 + 3) (b0 + 2) (.slice none 0 0)) w9 (VM (b0 + 3) (b0 + 2) S') w10 := hs
  have hnr : ¬ VM (b0 + 3) (b0 + 2) (.slice none 0 0) (b0 + 1) := by
    rintro (h | h | h)
    · omega
    · omega
    · simp [Value.ownBlock] at h
  have R10 := (hs.block (b0 + 1) (by have := Z9.out; omega) hnr).trans R9.out
  obtain ⟨o0, o1⟩ := box2 ho
  have fo := frozen_box ho
  have B10 : Hid (Below w.heap.size w w10) := by
    have h1 := HB.out
    refine h1.trans ⟨hs.os, hs.tape, hs.output, Nat.le_trans (Nat.le_refl _) (by have := hs.size; have := h1.size; omega), fun k hk => hs.block k (by have := h1.size; omega) ?_⟩
    have := HB0.out
    rintro (h | h | h)
    · omega
    · omega
    · simp [Value.ownBlock] at h
  obtain ⟨w11, e11⟩ : ∃ w11, w10.setCell ⟨b0 + 2, 1, none⟩ (.int .i64 (idx ((tr ns n).visit []) (tr ns n))) = w11 := ⟨_, rfl⟩
  have ho11 : w11.heap[b0 + 2]? = some (.cells #[S', .int .i64 (idx ((tr ns n).visit []) (tr ns n))] 28 (0, 0)) := by rw [← e11, heap_setCell_same w10 (b0 + 2) 1 _ _ _ ho]; rfl
  have R11 : w11.heap[b0 + 1]? = some (.cells dg0 28 (0, 0)) := by rw [← e11, heap_setCell_other w10 ⟨b0 + 2, 1, none⟩ (b0 + 1) _ (by simp)]; exact R10
  have B11 : Hid (Below w.heap.size w w11) := by show Below _ _ _; rw [← e11]; exact B10.out.setCell (by have := HB0.out; show w.heap.size ≤ b0 + 2; omega) _
  have hty : ∀ g, S'.ownBlock = some g → g ≠ b0 + 2 ∧ g ≠ b0 + 1 ∧ b0 ≤ g := by
    intro g hg
    obtain ⟨cs, hcs⟩ := own_type hI.row hg
    exact ⟨ne_type hcs ho (by decide), ne_type hcs R10 (by decide), (hI.row.lt g hg).1⟩
  have ROW : Hid (w11.ownsRow b0 44 3 S' ((tr ns n).visit []).length (bcells (table ((tr ns n).visit [])))) :=
    ownsRow_of_block hI.row (fun g hg => by rw [← e11]; exact heap_setCell_other w10 ⟨b0 + 2, 1, none⟩ g _ (hty g hg).1)
  obtain ⟨sa, sc, rfl⟩ : ∃ sa sc, S' = .slice sa ((tr ns n).visit []).length sc := by obtain ⟨ao, cap, e, -⟩ := ownsRow_shape hI.row; exact ⟨ao, cap, e⟩
  obtain ⟨q0, q1⟩ := box2 ho11
  have q0' : w11.cell? ⟨b0 + 1, 0, none⟩ = some (.slice none 0 0) := by rw [cell_of_row w11 (b0 + 1) 0 _ _ _ R11]; rfl
  have q1' : w11.cell? ⟨b0 + 1, 1, none⟩ = some (.int .i64 0) := by rw [cell_of_row w11 (b0 + 1) 1 _ _ _ R11]; rfl
  have fr := frozen_box R11
  have HR11 := Lib.hid R11; have HTY := Lib.hid hty; have HSZ := Lib.hid hsz
  have HOK := Lib.hid (hw.stands hn).1
  clear hI hs ho hst R10 ho11 R11 hty hsz x9 x8 f8 x6 f6
  go_wp2_with (fail)
  obtain ⟨w12, e12, P12, Q12, S12⟩ := put2 (w0 := w) (c0 := .slice sa ((tr ns n).visit []).length sc) (c1 := .int .i64 (idx ((tr ns n).visit []) (tr ns n))) HR11.out B11.out (by have := HB0.out; omega)
  rw [e12]
  obtain ⟨u0, u1⟩ := box2 P12
  refine bodyPost_ret (v := .agg #[.slice sa ((tr ns n).visit []).length sc, .int .i64 (idx ((tr ns n).visit []) (tr ns n))]) (by simp [results, Try.results64, go_sem, u0, u1]) rfl ?_
  refine ⟨_, rfl, fun M hM => ⟨canon_in HOK.out (by have := HSZ.out; omega), _, rfl, ?_⟩, by first | exact Q12 | (rw [← HB0.out]; exact Q12)⟩
  have hrow : w12.ownsRow b0 44 3 (.slice sa ((tr ns n).visit []).length sc) ((tr ns n).visit []).length (bcells (table ((tr ns n).visit []))) :=
    ownsRow_of_block ROW.out (fun g hg => S12.block g (ROW.out.lt g hg).2 (HTY.out g hg).2.1)
  have := brs_of_own (M := M) (ns := table ((tr ns n).visit [])) (by rw [table_length]; exact hrow) (fun g hg hm => by have := (HTY.out g hg).2.2; have := hM g hm; have := HB0.out; omega)
  exact this

end Go.Proofs.Ytohmibmakelclaa
