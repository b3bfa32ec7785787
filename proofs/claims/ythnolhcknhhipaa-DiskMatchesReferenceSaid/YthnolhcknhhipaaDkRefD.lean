/-
  The reference's Crash.
  No condition.
-/
import Derived.Test.YthnolhcknhhipaaDkRefC
import Derived.Deep.RegionHeld3
import Derived.Deep.Slices
import Derived.Deep.RegionLawGrows
namespace Go.Proofs.Ythnolhcknhhipaa
set_option linter.unusedVariables false
set_option linter.unusedSimpArgs false
open Go.RowKit

theorem infobytes : (Try.prog.info? 26).map (fun i => (i.zero, i.size, i.bytes)) = some (some (.slice none 0 0), 1, 24) := by kernel_rfl
theorem infoprefs : (Try.prog.info? 72).map (fun i => (i.zero, i.size, i.bytes)) = some (some (.agg #[.int .i64 0, .slice none 0 0]), 2, 32) := by kernel_rfl

/-- The reference's contents in a row of the call's own, away from that row. -/
def RowOf (w : World) (M : Nat → Prop) (lo : Nat) (gc : Nat) (cap n : Nat) (L : List (List Int)) : Prop :=
  ∃ us : List Value, w.ownsRow lo 26 1 (.slice (some ⟨gc, 0, none⟩) n cap) n us ∧ us.length = n ∧ L.length = n ∧ ∀ i (h1 : i < us.length) (h2 : i < L.length), Bytes w (fun b => b = gc ∨ b = lo + 1 ∨ M b) us[i] L[i] ∧ us[i].oneCell' = true

/-- A state as its five cells. -/
abbrev st5 (C W : Value) (d : Bool) (f : Int) (K : Value) : Array Value := #[C, W, .bool d, .int .i64 f, K]
/-- The zero state. -/
abbrev st0 : Array Value := #[.slice none 0 0, .slice none 0 0, .bool false, .int .i64 0, .slice none 0 0]

/-- The two blocks that a method of the state lays ahead: its own copy, and its result. -/
theorem ref_entry {w : World} {C W K : Value} {d : Bool} {f : Int} :
    ∃ w0 bx, (w.alloc (.cells (st5 C W d f K) 48)).alloc (.cells st0 48) = w0 ∧ w.heap.size = bx ∧ (w.alloc (.cells (st5 C W d f K) 48)).heap.size = bx + 1 ∧ w0.heap.size = bx + 2 ∧
      w0.heap[bx]? = some (.cells (st5 C W d f K) 48 (0, 0)) ∧ w0.heap[bx + 1]? = some (.cells st0 48 (0, 0)) ∧ Below w.heap.size w w0 := by
  refine ⟨_, _, rfl, rfl, by simp, by simp, ?_, ?_, ?_⟩
  · rw [Below.heap_alloc _ _ _ (by simp)]; exact heap_alloc_new w _
  · have := heap_alloc_new (w.alloc (.cells (st5 C W d f K) 48)) (.cells st0 48)
    rw [show (w.alloc (.cells (st5 C W d f K) 48)).heap.size = w.heap.size + 1 by simp] at this
    exact this
  · exact ((Below.refl _ _).alloc (Nat.le_refl _) _).alloc (by simp) _

/-- What a grid's cells hold. -/
theorem Grid.us {w : World} {M : Nat → Prop} {v : Value} {L : List (List Int)} (h : Grid w M v L) (hL : 0 < L.length) :
    ∃ (b off cap : Nat) (us : List Value), v = .slice (some ⟨b, off, none⟩) L.length cap ∧ us.length = L.length ∧ (∀ (j : Nat) (u : Value), us[j]? = some u → w.cell? ⟨b, off + j, none⟩ = some u) ∧ ∀ i (h1 : i < us.length) (h2 : i < L.length), Bytes w M us[i] L[i] ∧ us[i].oneCell' = true := by
  obtain ⟨ao, cap, rfl, hc, hm, h0, hx⟩ := h
  obtain ⟨b, off, u0, rfl, -, -, -, -⟩ := hx 0 hL
  have each : ∀ i, i < L.length → ∃ u : Value, w.cell? ⟨b, off + i, none⟩ = some u ∧ Bytes w M u (L[i]?.getD []) := by
    intro i hi
    obtain ⟨b', off', u, e, -, -, hcell, hu⟩ := hx i hi
    cases e
    exact ⟨u, hcell, by rw [List.getElem?_eq_getElem hi]; exact hu⟩
  obtain ⟨f, hf⟩ := @Deep.choose_lt Value ⟨.nilFunc⟩ L.length _ each
  refine ⟨b, off, cap, (List.range L.length).map f, rfl, by simp, fun j u hu => ?_, fun i h1 h2 => ?_⟩
  · have hj : j < L.length := by simpa using (List.getElem?_eq_some_iff.1 hu).1
    rw [(hf j hj).1, ← hu]; simp [hj]
  · have := (hf i h2).2
    rw [List.getElem?_eq_getElem h2] at this
    simp only [List.getElem_map, List.getElem_range]
    refine ⟨this, ?_⟩
    obtain ⟨ao, cap, hv, -⟩ := this
    rw [hv]; rfl

theorem RowOf.make {w w1 : World} {M : Nat → Prop} (hMl : ∀ b, M b → b < w.heap.size) {v : Value} {n : Nat} {us : List Value} {L : List (List Int)} (hb : Below w.heap.size w w1) (hown : w1.ownsRow w.heap.size 26 1 v n us) (hsome : v.ownBlock.isSome = true) (hn : us.length = n) (hL : L.length = n)
    (hu : ∀ i (h1 : i < us.length) (h2 : i < L.length), Bytes w M us[i] L[i] ∧ us[i].oneCell' = true) : ∃ gc cap, v = .slice (some ⟨gc, 0, none⟩) n cap ∧ RowOf w1 M w.heap.size gc cap n L ∧ w.heap.size ≤ gc := by
  obtain ⟨gc, cap, rfl, -, -, hge, -⟩ := own_some hown hsome
  refine ⟨gc, cap, rfl, ⟨us, hown, hn, hL, fun i h1 h2 => ⟨(hu i h1 h2).1.step ?_, (hu i h1 h2).2⟩⟩, hge⟩
  exact (Step.of_below hb M).to (fun _ h => h) (fun k hk => by rcases hk with hk | hk | hk; exact .inr (by omega); exact .inr (by omega); exact .inl hk)

theorem RowOf.below {w w' : World} {M : Nat → Prop} {lo gc cap n : Nat} {L : List (List Int)} (h : RowOf w M lo gc cap n L) (hb : Below w.heap.size w w') : RowOf w' M lo gc cap n L := by
  obtain ⟨us, h1, h2, h3, h4⟩ := h
  exact ⟨us, ownsRow_below hb h1, h2, h3, fun i a b => ⟨(h4 i a b).1.step (Step.of_below hb _), (h4 i a b).2⟩⟩

/-- One of the row's slices is written anew. -/
theorem RowOf.put {w : World} {M : Nat → Prop} {lo gc cap n : Nat} {L : List (List Int)} (h : RowOf w M lo gc cap n L) (k : Nat) (hk : k < n) (r : Value) (xs : List Int) (hr : Bytes w (fun b => b = gc ∨ b = lo + 1 ∨ M b) r xs) : RowOf (w.setCell ⟨gc, k, none⟩ r) M lo gc cap n (L.set k xs) := by
  obtain ⟨us, h1, h2, h3, h4⟩ := h
  have hst : Step (fun b => b = gc ∨ b = lo + 1 ∨ M b) w (fun b => b = gc ∨ b = lo + 1 ∨ M b) (w.setCell ⟨gc, k, none⟩ r) := Step.setCell (M := fun b => b = gc ∨ b = lo + 1 ∨ M b) (M' := fun b => b = gc ∨ b = lo + 1 ∨ M b) (Step.refl _ w) (p := ⟨gc, k, none⟩) (.inl (.inl rfl)) r
  refine ⟨us.set k r, ?_, by simpa using h2, by simpa using h3, fun i a b => ?_⟩
  · obtain ⟨hl, h1⟩ := h1
    refine ⟨by simpa using hl, ?_⟩
    rcases h1 with ⟨hv, _⟩ | ⟨g', cap', cur, hv, hb, hg, hn, hm, hs, ht⟩
    · cases hv
    · injection hv with e1 e2 e3
      simp only [Option.some.injEq, Addr.mk.injEq, and_true] at e1
      subst e1; subst e3
      rw [Nat.mul_one] at hs ht
      refine .inr ⟨gc, cap, cur.setIfInBounds k r, rfl, hb, heap_setCell_same w gc k _ _ r hg, hn, hm, by simpa using hs, ?_⟩
      rw [Nat.mul_one, Array.toList_setIfInBounds, ← ht]
      apply List.ext_getElem?
      intro i
      by_cases hi : i < n
      · rw [List.getElem?_take_of_lt hi, List.getElem?_set, List.getElem?_set, List.getElem?_take_of_lt hi]
        have : cur.toList.length = cap := by simpa using hs
        simp only [List.length_take]
        by_cases hki : k = i
        · rw [if_pos hki, if_pos hki, if_pos (by omega), if_pos (by omega)]
        · rw [if_neg hki, if_neg hki]
      · rw [List.getElem?_eq_none (by simp; omega), List.getElem?_eq_none (by simp; omega)]
  · have ha : i < us.length := by simpa using a
    have hb : i < L.length := by simpa using b
    by_cases hki : k = i
    · subst hki
      simp only [List.getElem_set_self]
      have hr' := hr
      obtain ⟨ao, c, hv, -⟩ := hr'
      exact ⟨(show Bytes w _ r xs from hr).step hst, by rw [hv]; rfl⟩
    · rw [List.getElem_set_ne hki, List.getElem_set_ne hki]
      exact ⟨(h4 i ha hb).1.step hst, (h4 i ha hb).2⟩

theorem RowOf.aside {w w' : World} {M : Nat → Prop} {lo gc cap n : Nat} {L : List (List Int)} (h : RowOf w M lo gc cap n L) (hs : Step (fun k => k = lo + 1) w (fun k => k = lo + 1) w') (hne : gc ≠ lo + 1) : RowOf w' M lo gc cap n L := by
  obtain ⟨us, h1, h2, h3, h4⟩ := h
  refine ⟨us, ownsRow_of_block h1 (fun b hb => hs.block b (h1.lt b hb).2 (fun e => ?_)), h2, h3, fun i a b => ⟨(h4 i a b).1.step (hs.to (fun k hk => .inr (.inl hk)) (fun k hk => .inl hk)), (h4 i a b).2⟩⟩
  have : gc = b := by simpa [Value.ownBlock] using hb
  omega

theorem Ints.at_ {w : World} {M : Nat → Prop} {ao : Option Addr} {m cap : Nat} {ks : List Int} (h : Ints w M (.slice ao m cap) ks) (j : Nat) (hj : j < ks.length) : ∃ b off, ao = some ⟨b, off, none⟩ ∧ w.cell? ⟨b, off + j, none⟩ = some (.int .i64 ks[j]) := by
  obtain ⟨ao', cap', hv, hc, hm, h0, hx⟩ := h
  cases hv
  rcases hx with hx | ⟨b, off, rfl, -, -, h4⟩
  · have : ks = [] := by simpa using hx
    subst this; simp at hj
  · exact ⟨b, off, rfl, h4 j _ (by simp [hj])⟩

/-- A row gives a grid. -/
theorem RowOf.grid {w : World} {M : Nat → Prop} {lo gc cap n : Nat} {L : List (List Int)} (h : RowOf w M lo gc cap n L) (hg : ¬ M gc) : Grid w M (.slice (some ⟨gc, 0, none⟩) n cap) L := by
  obtain ⟨us, h1, h2, h3, h4⟩ := h
  obtain ⟨ao, cap', hv, hc, hm, h0, hsh⟩ := ownsRow_shape h1
  cases hv
  obtain ⟨-, -, hob, hcells⟩ := hsh _ rfl
  refine ⟨_, _, by rw [h3], by omega, hm, (fun h => by cases h), fun i hi => ?_⟩
  have hi' : i < us.length := by omega
  refine ⟨gc, 0, us[i], rfl, (h1.lt gc hob).2, hg, ?_, (h4 i hi' hi).1.wide (fun _ _ h => .inr (.inr h))⟩
  have := hcells i us[i] (by simp [hi'])
  rwa [Addr.add_lit] at this

theorem Pend.get {w : World} {M : Nat → Prop} {ao : Option Addr} {m cap : Nat} {l : List (Int × List Int)} (h : Pend w M (.slice ao m cap) l) (i : Nat) (hi : i < l.length) :
    ∃ b off u, ao = some ⟨b, off, none⟩ ∧ w.cell? ⟨b, off + i * 2, none⟩ = some (.int .i64 l[i].1) ∧ w.cell? ⟨b, off + i * 2 + 1, none⟩ = some u ∧ Bytes w M u l[i].2 := by
  obtain ⟨ao', cap', hv, hc, hm, h0, hx⟩ := h
  cases hv
  obtain ⟨b, off, u, h1, -, -, h2, h3, h4⟩ := hx i hi
  exact ⟨b, off, u, h1, h2, h3, h4⟩

theorem RowOf.cell {w : World} {M : Nat → Prop} {lo gc cap n : Nat} {L : List (List Int)} (h : RowOf w M lo gc cap n L) (k : Nat) (hk : k < n) : ∃ r, w.cell? ⟨gc, k, none⟩ = some r ∧ w.frozen? ⟨gc, k, none⟩ = false ∧ Bytes w (fun b => b = gc ∨ b = lo + 1 ∨ M b) r (L[k]?.getD []) := by
  obtain ⟨us, h1, h2, h3, h4⟩ := h
  have hL : k < L.length := by omega
  have hu : k < us.length := by omega
  have hf : w.frozen? ⟨gc, k, none⟩ = false := by
    rcases h1.2 with ⟨hv, _⟩ | ⟨g', cap', cur, hv, _, hg, _⟩
    · cases hv
    · cases hv; simp [World.frozen?, hg]
  obtain ⟨ao, cap', hv, hc, hm, h0, hsh⟩ := ownsRow_shape h1
  cases hv
  obtain ⟨-, -, -, hcells⟩ := hsh _ rfl
  have hcell := hcells k us[k] (by simp [hu])
  rw [Addr.add_lit, Nat.zero_add] at hcell
  refine ⟨us[k], hcell, hf, ?_⟩
  rw [List.getElem?_eq_getElem hL]
  exact (h4 k hu hL).1

theorem Bytes.shape {w : World} {M : Nat → Prop} {v : Value} {xs : List Int} (h : Bytes w M v xs) : ∃ a c, v = .slice a xs.length c := by obtain ⟨a, c, hv, -⟩ := h; exact ⟨a, c, hv⟩

theorem cell_other {w : World} {p a : Addr} {u v : Value} (h : w.cell? a = some v) (hne : a.block ≠ p.block) : (w.setCell p u).cell? a = some v := by
  rw [World.cell?_of_block (heap_setCell_other w p a.block u hne)]; exact h

/-- How much the crash keeps of write number j. -/
def cutAt (ks : List Int) (j : Nat) : Nat := if h : j < ks.length then cut ks[j] else 0
theorem cutAt_le (ks : List Int) (j : Nat) : cutAt ks j ≤ 64 := by
  unfold cutAt; split
  · exact cut_le _
  · omega

theorem sects_step (dur : List Int) (n : Nat) (hd : dur.length = 64 * n) (l : List (Int × List Int)) (hl : ∀ p ∈ l, 0 ≤ p.1 ∧ p.1 < n ∧ p.2.length = 64) (ks : List Int) (j : Nat) (hj : j < l.length) :
    sects (crashFold dur (l.take (j + 1)) ks) n = (sects (crashFold dur (l.take j) ks) n).set l[j].1.toNat (l[j].2.take (cutAt ks j) ++ (sect (crashFold dur (l.take j) ks) l[j].1.toNat).drop (cutAt ks j)) := by
  have hp := hl l[j] (List.getElem_mem hj)
  have hdj : (crashFold dur (l.take j) ks).length = 64 * n := crashFold_length _ _ _ _ hd (fun p hp => hl p (List.mem_of_mem_take hp))
  have hs := sect_length hdj (show l[j].1.toNat < n by omega)
  have hlt : (l.take j).length = j := by simp; omega
  rw [take_snoc' _ _ hj, crashFold_snoc]
  simp only [hlt]
  unfold cutAt
  by_cases hk : j < ks.length
  · rw [dif_pos hk, dif_pos hk]
    have hc := cut_le ks[j]
    have hcl : (l[j].2.take (cut ks[j])).length = cut ks[j] := by rw [List.length_take]; omega
    apply List.ext_getElem
    · simp [sects]
    · intro i h1 h2
      have hi : i < n := by simpa [sects] using h1
      rw [sects_get, sect_splice _ _ n _ _ hdj (by omega) (by omega)]
      by_cases hq : l[j].1.toNat = i
      · subst hq
        rw [if_pos rfl, List.getElem_set_self]
        simp [splice, hcl]
      · rw [if_neg hq, List.getElem_set_ne hq, sects_get]
  · rw [dif_neg hk, dif_neg hk]
    apply List.ext_getElem
    · simp [sects]
    · intro i h1 h2
      by_cases hq : l[j].1.toNat = i
      · subst hq
        rw [List.getElem_set_self, sects_get]; simp
      · rw [List.getElem_set_ne hq]

/-- Five cells of a block are written. -/
theorem put5 {w0 w : World} {b : Nat} {a0 a1 a2 a3 a4 c0 c1 c2 c3 c4 : Value} {t : TypeId} (h : w.heap[b]? = some (.cells #[a0, a1, a2, a3, a4] t (0, 0))) (hs : Below w0.heap.size w0 w) (hb : w0.heap.size ≤ b) :
    ∃ w', ((((w.setCell ⟨b, 0, none⟩ c0).setCell ⟨b, 1, none⟩ c1).setCell ⟨b, 2, none⟩ c2).setCell ⟨b, 3, none⟩ c3).setCell ⟨b, 4, none⟩ c4 = w' ∧ w'.heap[b]? = some (.cells #[c0, c1, c2, c3, c4] t (0, 0)) ∧ Below w0.heap.size w0 w' ∧ Step (fun k => k = b) w (fun k => k = b) w' := by
  refine ⟨_, rfl, ?_, ?_, ?_⟩
  · have h0 := heap_setCell_same w b 0 _ _ c0 h
    have h1 := heap_setCell_same _ b 1 _ _ c1 h0
    have h2 := heap_setCell_same _ b 2 _ _ c2 h1
    have h3 := heap_setCell_same _ b 3 _ _ c3 h2
    have h4 := heap_setCell_same _ b 4 _ _ c4 h3
    rw [h4]; rfl
  · exact ((((hs.setCell hb _).setCell hb _).setCell hb _).setCell hb _).setCell hb _
  · have hone : ∀ (i : Nat) (u : Value) (w1 : World), Step (fun k => k = b) w (fun k => k = b) w1 → Step (fun k => k = b) w (fun k => k = b) (w1.setCell ⟨b, i, none⟩ u) := fun i u w1 h1 => h1.setCell (.inl rfl) u
    exact hone _ _ _ (hone _ _ _ (hone _ _ _ (hone _ _ _ (hone _ _ _ (Step.refl _ w)))))

set_option maxRecDepth 100000 in
set_option maxHeartbeats 2000000 in
theorem refcrash_any (w : World) (M : Nat → Prop) (hM : ∀ b, M b → b < w.heap.size) (n : Nat) (v : Value) (s : DS) (h : RefAt w M n v s) (ok : s.Ok n) (kv : Value) (ks : List Int) (hk : Ints w NoB kv ks) (hwr : s.wr.length < 1073741824) :
    Calls Try.prog 33 #[v, kv] w fun e w' => ∃ r, e = .returned r ∧ RefAt w' M n r (s.crash ks) ∧ Below w.heap.size w w' := by
  have HM := Lib.hid hM; clear hM
  obtain ⟨C, W, K, rfl, hC, hW, hK⟩ := h
  obtain ⟨w0, bx, hw0q, hbx, hbx1, hsz, hB, hB1, hb0⟩ := @ref_entry w C W K s.down s.fuse
  have HC : Hid (Grid w0 M C (sects s.dur n)) := hC.step (Step.of_below hb0 M)
  have HW : Hid (Pend w0 M W s.wr) := hW.step (Step.of_below hb0 M)
  have HK : Hid (Ints w0 M K s.kept) := hK.step (Step.of_below hb0 M)
  have HKS : Hid (Ints w0 NoB kv ks) := hk.step (Step.of_below hb0 NoB)
  obtain ⟨x0, x1, x2, x3, x4⟩ := box_cells hB
  have B0 := Lib.hid hb0; have OK := Lib.hid ok; have HX := Lib.hid hB; have R1 := Lib.hid hB1; have BX := Lib.hid hbx; have SZ := Lib.hid hsz
  have HCw := Lib.hid hC; have HWw := Lib.hid hW; have HKw := Lib.hid hK; have HKSw := Lib.hid hk
  have FC := hC; have FW := hW; have FK := hK
  clear hC hW hK hk hB hb0 ok hB1
  obtain ⟨ca, cc, rfl, -⟩ := FC
  obtain ⟨wa, wc, rfl, -⟩ := FW
  obtain ⟨ka, kc, rfl, -⟩ := FK
  cases hdn : s.down with
  | true =>
    have HR : Hid (s.crash ks = s) := by show _ = _; unfold DS.crash; rw [if_pos hdn]
    rw [hdn] at x2 hw0q hbx1
    obtain ⟨y0, y1, y2, y3, y4⟩ := box_cells R1.out
    have z : ∀ i, w0.frozen? ⟨bx + 1, i, none⟩ = false := by intro i; simp [World.frozen?, R1.out]
    go_enter Try.func33, Try.ntmps33
    go_wp2_with (fail)
    obtain ⟨w1, hw1, P1, Q1, -⟩ := put5 (w0 := w) (c0 := .slice ca (sects s.dur n).length cc) (c1 := .slice wa s.wr.length wc) (c2 := .bool true) (c3 := .int .i64 s.fuse) (c4 := .slice ka s.kept.length kc) R1.out B0.out (by have := BX.out; omega)
    rw [hw1]
    obtain ⟨z0, z1, z2, z3, z4⟩ := box_cells P1
    clear y0 y1 y2 y3 y4 z hw1 x0 x1 x2 x3 x4 hw0q
    refine bodyPost_ret (v := .agg #[.slice ca (sects s.dur n).length cc, .slice wa s.wr.length wc, .bool true, .int .i64 s.fuse, .slice ka s.kept.length kc]) (by simp [results, Try.results33, go_sem, z0, z1, z2, z3, z4]) rfl ?_
    rw [HR.out, ← hdn]
    exact ⟨_, rfl, ⟨_, _, _, rfl, HCw.out.step (Step.of_below Q1 M), HWw.out.step (Step.of_below Q1 M), HKw.out.step (Step.of_below Q1 M)⟩, Q1⟩
  | false =>
    have HR : Hid (s.crash ks = { dur := crashFold s.dur s.wr ks, wr := [], down := true, fuse := 0, kept := [] }) := by show _ = _; unfold DS.crash; rw [if_neg (by rw [hdn]; simp)]
    rw [hdn] at x2 hw0q hbx1 HX
    obtain ⟨i0, hi, hz0, hz1, hz2⟩ := info_parts infobytes
    obtain ⟨ci, hci⟩ : ∃ ci, s.dur = ci := ⟨_, rfl⟩
    simp only [sects_length] at HCw HC x0 hw0q hbx1 HX ⊢
    have hn := OK.out.hi
    obtain ⟨kva, kvc, rfl⟩ : ∃ a c, kv = .slice a ks.length c := by obtain ⟨a, c, hv, -⟩ := HKSw.out; exact ⟨a, c, hv⟩
    obtain ⟨cb, co, cc', us, hcv, hul, huc, huu⟩ := HCw.out.us (by rw [sects_length]; exact OK.out.lo)
    simp only [sects_length] at hcv hul huu
    cases hcv
    have UU := Lib.hid huu
    have UC : Hid (∀ (j : Nat) (u : Value), us[j]? = some u → (w0.alloc (.cells #[] 26)).cell? ((⟨cb, co, none⟩ : Addr).add j) = some u) := by
      intro j u hu
      rw [Addr.add_lit]
      exact cell_alloc (cell_below B0.out (huc j u hu)) _
    have B1 : Hid (Below w.heap.size w (w0.alloc (.cells #[] 26))) := B0.out.alloc (by have := B0.out.size; omega) _
    have E0 : Hid ((w0.alloc (.cells #[] 26)).ownsRow w.heap.size 26 1 (.slice (some ⟨bx + 2, 0, none⟩) 0 0) 0 []) := by
      have := World.ownsRow_made w0 #[] 0 (base := w.heap.size) (e := 26) (size := 1) (by have := B0.out.size; omega) (by decide) rfl
      rw [hsz] at this; exact this
    have UO : Hid (∀ u ∈ us, u.oneCell' = true) := by
      intro u hu
      obtain ⟨i, hi, rfl⟩ := List.getElem_of_mem hu
      exact (huu i hi (by omega)).2
    clear huc huu
    go_enter Try.func33, Try.ntmps33
    go_wp2_with (at_builtin; refine wpList_append_any rfl (.tmp 12) (.tmp 14) 45 rfl w.heap.size 26 i0 (.slice none 0 0) 1 24 Try.underlying45 hi hz0 hz1 hz2 rfl (by decide) (.slice (some ⟨bx + 2, 0, none⟩) 0 0) 0 [] rfl E0.out rfl (some ⟨cb, co, none⟩) n cc us rfl (fun h => by cases h) (by omega) (fun ad had => by cases had; exact UC.out) UO.out (by unfold maxLen; omega) (by omega) B1.out.size ?_)
    intro v1 w1 hown1 hg1 hsome1
    have hkeep : ∀ k, k < bx + 2 → w1.heap[k]? = w0.heap[k]? := by
      intro k hk
      rw [hg1.block k (by simp; omega) (by intro e; have h3 : k = bx + 2 := (by simpa [Value.ownBlock] using e); omega)]
      exact Below.heap_alloc w0 _ k (by omega)
    have HX1 : Hid (w1.heap[bx]? = some (.cells (st5 (.slice (some ⟨cb, co, none⟩) n cc) (.slice wa s.wr.length wc) false s.fuse (.slice ka s.kept.length kc)) 48 (0, 0))) := (hkeep bx (by omega)).trans HX.out
    have HR1 : Hid (w1.heap[bx + 1]? = some (.cells st0 48 (0, 0))) := (hkeep (bx + 1) (by omega)).trans R1.out
    clear hkeep HX
    have hB1 : Below w.heap.size w w1 := B1.out.grown hg1 B1.out.size (by intro j hj; cases hj; show w.heap.size ≤ bx + 2; omega)
    obtain ⟨gc, cap, rfl, hrow, hgc⟩ := RowOf.make HM.out hB1 (by rw [hbx]; simpa using hown1) hsome1 hul (sects_length s.dur n) (by intro i h1 h2; exact UU.out i h1 (by rw [sects_length] at h2; exact h2))
    have RW := Lib.hid hrow; have GC := Lib.hid hgc; clear B1
    have B1 := Lib.hid hB1
    clear hown1 hg1 hsome1 hrow hgc E0 UC UO UU hul HC HCw hw0q hbx1 HW HK HKS x2 x3 x4 R1 SZ hsz
    -- the copy's own state
    clear x0 x1
    obtain ⟨x0, x1, x2, x3, x4⟩ := box_cells HX1.out
    obtain ⟨w2, hw2q⟩ : ∃ w2, w1.alloc (.cells st0 48) = w2 := ⟨_, rfl⟩
    obtain ⟨bo, hbo⟩ : ∃ bo, w1.heap.size = bo := ⟨_, rfl⟩
    have R2 := heap_alloc_new w1 (.cells st0 48)
    rw [hw2q, hbo] at R2
    obtain ⟨y0, y1, y2, y3, y4⟩ := box_cells R2
    have z : ∀ i, w2.frozen? ⟨bo, i, none⟩ = false := by intro i; simp [World.frozen?, R2]
    have R2' := Lib.hid R2; clear R2 hB1
    go_wp2_with (fail)
    obtain ⟨w3, hw3, P3, Q3, -⟩ := put5 (w0 := w1) (c0 := .slice (some ⟨gc, 0, none⟩) n cap) (c1 := .slice none 0 0) (c2 := .bool true) (c3 := .int .i64 0) (c4 := .slice none 0 0) R2'.out (by rw [← hw2q]; exact (Below.refl _ _).alloc (Nat.le_refl _) _) (by omega)
    rw [hw3]
    have INV : Hid (Below w.heap.size w w3 ∧ w3.heap[bx]? = some (.cells (st5 (.slice (some ⟨cb, co, none⟩) n cc) (.slice wa s.wr.length wc) false s.fuse (.slice ka s.kept.length kc)) 48 (0, 0)) ∧ w3.heap[bx + 1]? = some (.cells st0 48 (0, 0)) ∧ w3.heap[bo]? = some (.cells (st5 (.slice (some ⟨gc, 0, none⟩) n cap) (.slice none 0 0) true 0 (.slice none 0 0)) 48 (0, 0)) ∧ RowOf w3 M w.heap.size gc cap n (sects (crashFold s.dur (s.wr.take 0) ks) n)) := by
      have hl1 : bx < w1.heap.size := by have := HX1.out; rw [Array.getElem?_eq_some_iff] at this; exact this.1
      have hl2 : bx + 1 < w1.heap.size := by have := HR1.out; rw [Array.getElem?_eq_some_iff] at this; exact this.1
      exact ⟨B1.out.trans (Q3.mono B1.out.size), (Q3.block bx hl1).trans HX1.out, (Q3.block (bx + 1) hl2).trans HR1.out, P3, by
        have := RW.out.below Q3
        rw [List.take_zero]; simpa [crashFold] using this⟩
    have NE : Hid (gc ≠ bo ∧ gc ≠ bx ∧ gc ≠ bx + 1) := by
      obtain ⟨us', h1, -⟩ := RW.out
      have hg := (h1.lt gc rfl)
      have hty : ∃ cs, w1.heap[gc]? = some (.cells cs 26 (0, 0)) := by
        rcases h1.2 with ⟨hv, _⟩ | ⟨g', cap', cur, hv, _, hh, _⟩
        · cases hv
        · cases hv; exact ⟨cur, hh⟩
      obtain ⟨cs, hcs⟩ := hty
      refine ⟨by omega, ?_, ?_⟩
      · rintro rfl; rw [HX1.out] at hcs; simp at hcs
      · rintro rfl; rw [HR1.out] at hcs; simp at hcs
    clear x0 x1 x2 x3 x4 y0 y1 y2 y3 y4 z R2' hw2q hw3 P3 Q3 RW HX1 HR1 B1
    have hwr' : (s.wr.length : Int) < 1073741824 := by omega
    have hkl : Hid (ks.length ≤ 9223372036854775807) := by
      obtain ⟨a, c, hv, hc, hm, -⟩ := HKSw.out; cases hv; show _ ≤ _; unfold maxLen at hm; omega
    have hkl' := hkl.out
    go_loopw [6] (fun i wr => ∃ j : Nat, j ≤ s.wr.length ∧ i = .int .i64 j ∧ Hid (Below w.heap.size w wr ∧ wr.heap[bx]? = some (.cells (st5 (.slice (some ⟨cb, co, none⟩) n cc) (.slice wa s.wr.length wc) false s.fuse (.slice ka s.kept.length kc)) 48 (0, 0)) ∧ wr.heap[bx + 1]? = some (.cells st0 48 (0, 0)) ∧ wr.heap[bo]? = some (.cells (st5 (.slice (some ⟨gc, 0, none⟩) n cap) (.slice none 0 0) true 0 (.slice none 0 0)) 48 (0, 0)) ∧ RowOf wr M w.heap.size gc cap n (sects (crashFold s.dur (s.wr.take j) ks) n))) (fun i _ => s.wr.length - (intOf i).toNat)
    case atStart => exact ⟨0, Nat.zero_le _, rfl, INV⟩
    case round =>
      clear INV
      obtain ⟨j, hj, rfl, INV⟩ := hrel
      obtain ⟨I0, I1, I2, I3, I4⟩ := INV.out
      obtain ⟨x0, x1, x2, x3, x4⟩ := box_cells I1
      by_cases hlt : j < s.wr.length
      · have hj0 : (0 : Int) ≤ (j : Int) := by omega
        have hj1 : (j : Int) < (s.wr.length : Int) := by omega
        obtain ⟨b, off, u, rfl, d1, d2, hu⟩ := HWw.out.get j hlt
        obtain ⟨pp, hpp⟩ : ∃ pp, s.wr[j] = pp := ⟨_, rfl⟩
        have hpo := OK.out.wr pp (hpp ▸ List.getElem_mem hlt)
        have hss := sects_step s.dur n OK.out.dur s.wr OK.out.wr ks j hlt
        rw [hpp] at d1 hu hss
        have d1 := cell_below I0 d1
        have d2 := cell_below I0 d2
        have HU : Hid (Bytes wr NoB u pp.2) := Reads.step (Reads.wide hu (fun _ _ h => h.elim)) (Step.of_below I0 NoB)
        obtain ⟨ua, uc, rfl, -⟩ : ∃ ua uc, u = .slice ua pp.2.length uc ∧ True := by obtain ⟨a, c, hv, -⟩ := HU.out; exact ⟨a, c, hv, trivial⟩
        rw [hpo.2.2] at d2 
        have HSS := Lib.hid hss
        obtain ⟨q, hq⟩ : ∃ q : Nat, pp.1 = (q : Int) := ⟨pp.1.toNat, by omega⟩
        obtain ⟨o0, -, -, -, -⟩ := box_cells I3
        clear hss hu I1 I2 I3 
        have hgw : gc < wr.heap.size := by obtain ⟨us', h1, -⟩ := I4; exact (h1.lt gc rfl).2
        -- the write's own copy
        obtain ⟨bw, hbw⟩ : ∃ bw, wr.heap.size = bw := ⟨_, rfl⟩
        obtain ⟨w4, hw4q⟩ : ∃ w4, wr.alloc (.cells #[.int .i64 0, .slice none 0 0] 72) = w4 := ⟨_, rfl⟩
        have B4 : Below wr.heap.size wr (wr.alloc (.cells #[.int .i64 0, .slice none 0 0] 72)) := (Below.refl _ _).alloc (Nat.le_refl _) _
        have R4 := heap_alloc_new wr (.cells #[.int .i64 0, .slice none 0 0] 72)
        rw [hw4q, hbw] at R4
        rw [hw4q] at B4
        have e0 : w4.cell? ⟨bw, 0, none⟩ = some (.int .i64 0) := by rw [cell_of_row w4 bw 0 _ _ _ R4]; rfl
        have e1 : w4.cell? ⟨bw, 1, none⟩ = some (.slice none 0 0) := by rw [cell_of_row w4 bw 1 _ _ _ R4]; rfl
        have z : ∀ i, w4.frozen? ⟨bw, i, none⟩ = false := by intro i; simp [World.frozen?, R4]
        have R4' := Lib.hid R4; have B4' := Lib.hid B4
        clear R4 B4
        have hcase : (¬ (j : Int) < (ks.length : Int) ∧ cutAt ks j = 0) ∨ ∃ (hk : j < ks.length), True := by
          by_cases hk : j < ks.length
          · exact .inr ⟨hk, trivial⟩
          · exact .inl ⟨by omega, by unfold cutAt; rw [dif_neg hk]⟩
        rcases hcase with ⟨hk, hcut⟩ | ⟨hk, -⟩
        · go_wp2_with (fail)
          obtain ⟨w5, hw5⟩ : ∃ w5, (w4.setCell ⟨bw, 0, none⟩ (.int .i64 (q : Int))).setCell ⟨bw, 1, none⟩ (.slice ua 64 uc) = w5 := ⟨_, rfl⟩
          have R5 : w5.heap[bw]? = some (.cells #[.int .i64 (q : Int), .slice ua 64 uc] 72 (0, 0)) := by
            rw [← hw5, heap_setCell_same _ bw 1 _ _ _ (heap_setCell_same w4 bw 0 _ _ (.int .i64 (q : Int)) R4'.out)]; rfl
          have B5 : Below wr.heap.size wr w5 := by rw [← hw5]; exact (B4'.out.setCell (Nat.le_of_eq hbw) _).setCell (Nat.le_of_eq hbw) _
          rw [hw5]
          have f0 : w5.cell? ⟨bw, 0, none⟩ = some (.int .i64 (q : Int)) := by rw [cell_of_row w5 bw 0 _ _ _ R5]; rfl
          have f1 : w5.cell? ⟨bw, 1, none⟩ = some (.slice ua 64 uc) := by rw [cell_of_row w5 bw 1 _ _ _ R5]; rfl
          have o1 := cell_below B5 o0
          have I5 := I4.below B5
          have hqn : q < n := by omega
          obtain ⟨rr, l0, l1, hrr⟩ := I5.cell q hqn
          have hL : ((sects (crashFold s.dur (s.wr.take j) ks) n)[q]?.getD []) = sect (crashFold s.dur (s.wr.take j) ks) q := by
            rw [List.getElem?_eq_getElem (by rw [sects_length]; exact hqn), sects_get]; rfl
          rw [hL] at hrr
          have hsl : (sect (crashFold s.dur (s.wr.take j) ks) q).length = 64 := sect_length (crashFold_length _ _ _ _ OK.out.dur (fun p hp => OK.out.wr p (List.mem_of_mem_take hp))) hqn
          obtain ⟨ra, rc, rfl⟩ : ∃ ra rc, rr = .slice ra 64 rc := by obtain ⟨a, c, hv, -⟩ := hrr; rw [hsl] at hv; exact ⟨a, c, hv⟩
          have HO : Hid (Bytes w5.drew NoB (.slice ra 64 rc) (sect (crashFold s.dur (s.wr.take j) ks) q)) := (Reads.wide hrr (fun _ _ h => h.elim)).step (Step.drew (Step.refl NoB w5))
          have HD : Hid (Bytes w5.drew NoB (.slice ua 64 uc) pp.2) := by
            have := (HU.out.step (Step.of_below B5 NoB)).step (Step.drew (Step.refl NoB w5))
            rw [hpo.2.2] at this; exact this
          have HQ : Hid ((q : Int) < n ∧ (0 : Int) ≤ q) := ⟨by omega, by omega⟩
          have hq0 := HQ.out.1
          have hq1 := HQ.out.2
          have hpl := hpo.2.2
          have HI5 := Lib.hid I5; have HB5 := Lib.hid B5; have HSL := Lib.hid hsl; have HPL := Lib.hid hpl
          clear x0 x1 x2 x3 x4 d1 d2 e0 e1 z R4' B4' hw5 hw4q I4 I5 B5 hL hrr hsl hpl o0
          have NE1 : gc ≠ bo := NE.out.1
          have NE2 : gc ≠ bw := by omega
          go_wp2_with (fail)
          refine wp_region_held_drew (S := fun w' => w'.cell? ⟨bo, 0, none⟩ = some (.slice (some ⟨gc, 0, none⟩) n cap) ∧ w'.cell? ⟨bw, 0, none⟩ = some (.int .i64 (q : Int)) ∧ w'.cell? ⟨bw, 1, none⟩ = some (.slice ua 64 uc)) (by kernel_rfl) ⟨o1, f0, f1⟩ (fun hS => ?_)
          refine wpAnyH_take (i := 0) (v := .pointer (some ⟨bo, 0, none⟩)) rfl (by kernel_rfl) (by kernel_rfl) (by kernel_rfl) (fun _ _ _ h => h) (Or.inl ⟨by rfl, ?_⟩) hS ?_
          · intro w hSw
            go_split_ands
            go_simp
          try simp only [Act.put, List.getElem_toArray, List.getElem_cons_zero, List.getElem_cons_succ, List.setIfInBounds_toArray, List.set_cons_zero, List.set_cons_succ]
          refine wpAnyH_take (i := 1) (v := .slice (some ⟨gc, 0, none⟩) n cap) rfl (by kernel_rfl) (by kernel_rfl) (by kernel_rfl) (fun _ _ _ h => h) (Or.inl ⟨by rfl, ?_⟩) hS ?_
          · intro w hSw
            go_split_ands
            go_simp
          try simp only [Act.put, List.getElem_toArray, List.getElem_cons_zero, List.getElem_cons_succ, List.setIfInBounds_toArray, List.set_cons_zero, List.set_cons_succ]
          refine wpAnyH_take (i := 2) (v := .pointer (some ⟨bw, 0, none⟩)) rfl (by kernel_rfl) (by kernel_rfl) (by kernel_rfl) (fun _ _ _ h => h) (Or.inl ⟨by rfl, ?_⟩) hS ?_
          · intro w hSw
            go_split_ands
            go_simp
          try simp only [Act.put, List.getElem_toArray, List.getElem_cons_zero, List.getElem_cons_succ, List.setIfInBounds_toArray, List.set_cons_zero, List.set_cons_succ]
          refine wpAnyH_take (i := 3) (v := .int .i64 (q : Int)) rfl (by kernel_rfl) (by kernel_rfl) (by kernel_rfl) (fun _ _ _ h => h) (Or.inl ⟨by rfl, ?_⟩) hS ?_
          · intro w hSw
            go_split_ands
            go_simp
          try simp only [Act.put, List.getElem_toArray, List.getElem_cons_zero, List.getElem_cons_succ, List.setIfInBounds_toArray, List.set_cons_zero, List.set_cons_succ]
          refine wpAnyH_take (i := 4) (v := .pointer (some ⟨bo, 0, none⟩)) rfl (by kernel_rfl) (by kernel_rfl) (by kernel_rfl) (fun _ _ _ h => h) (Or.inl ⟨by rfl, ?_⟩) hS ?_
          · intro w hSw
            go_split_ands
            go_simp
          try simp only [Act.put, List.getElem_toArray, List.getElem_cons_zero, List.getElem_cons_succ, List.setIfInBounds_toArray, List.set_cons_zero, List.set_cons_succ]
          refine wpAnyH_take (i := 5) (v := .slice (some ⟨gc, 0, none⟩) n cap) rfl (by kernel_rfl) (by kernel_rfl) (by kernel_rfl) (fun _ _ _ h => h) (Or.inl ⟨by rfl, ?_⟩) hS ?_
          · intro w hSw
            go_split_ands
            go_simp
          try simp only [Act.put, List.getElem_toArray, List.getElem_cons_zero, List.getElem_cons_succ, List.setIfInBounds_toArray, List.set_cons_zero, List.set_cons_succ]
          refine wpAnyH_take (i := 6) (v := .pointer (some ⟨bw, 0, none⟩)) rfl (by kernel_rfl) (by kernel_rfl) (by kernel_rfl) (fun _ _ _ h => h) (Or.inl ⟨by rfl, ?_⟩) hS ?_
          · intro w hSw
            go_split_ands
            go_simp
          try simp only [Act.put, List.getElem_toArray, List.getElem_cons_zero, List.getElem_cons_succ, List.setIfInBounds_toArray, List.set_cons_zero, List.set_cons_succ]
          refine wpAnyH_take (i := 7) (v := .int .i64 (q : Int)) rfl (by kernel_rfl) (by kernel_rfl) (by kernel_rfl) (fun _ _ _ h => h) (Or.inl ⟨by rfl, ?_⟩) hS ?_
          · intro w hSw
            go_split_ands
            go_simp
          try simp only [Act.put, List.getElem_toArray, List.getElem_cons_zero, List.getElem_cons_succ, List.setIfInBounds_toArray, List.set_cons_zero, List.set_cons_succ]
          refine wpAnyH_take (i := 8) (v := .pointer (some ⟨gc, q, none⟩)) rfl (by kernel_rfl) (by kernel_rfl) (by kernel_rfl) (fun _ _ _ h => h) (Or.inl ⟨by rfl, ?_⟩) hS ?_
          · intro w hSw
            go_split_ands
            go_simp
          try simp only [Act.put, List.getElem_toArray, List.getElem_cons_zero, List.getElem_cons_succ, List.setIfInBounds_toArray, List.set_cons_zero, List.set_cons_succ]
          refine wpAnyH_take (i := 10) (v := .pointer (some ⟨bw, 1, none⟩)) rfl (by kernel_rfl) (by kernel_rfl) (by kernel_rfl) (fun _ _ _ h => h) (Or.inl ⟨by rfl, ?_⟩) hS ?_
          · intro w hSw
            go_split_ands
            go_simp
          try simp only [Act.put, List.getElem_toArray, List.getElem_cons_zero, List.getElem_cons_succ, List.setIfInBounds_toArray, List.set_cons_zero, List.set_cons_succ]
          refine wpAnyH_take (i := 11) (v := .slice ua 64 uc) rfl (by kernel_rfl) (by kernel_rfl) (by kernel_rfl) (fun _ _ _ h => h) (Or.inl ⟨by rfl, ?_⟩) hS ?_
          · intro w hSw
            go_split_ands
            go_simp
          try simp only [Act.put, List.getElem_toArray, List.getElem_cons_zero, List.getElem_cons_succ, List.setIfInBounds_toArray, List.set_cons_zero, List.set_cons_succ]
          refine wpAnyH_take (i := 12) (v := .int .i64 0) rfl (by kernel_rfl) (by kernel_rfl) (by kernel_rfl) (fun _ _ _ h => h) (Or.inl ⟨by rfl, ?_⟩) hS ?_
          · intro w hSw
            go_split_ands
            go_simp
          try simp only [Act.put, List.getElem_toArray, List.getElem_cons_zero, List.getElem_cons_succ, List.setIfInBounds_toArray, List.set_cons_zero, List.set_cons_succ]
          refine wpAnyH_ready (rs := [9]) (by kernel_rfl) (by simp) ?_
          refine AllReadyH.cons rfl (fun K hK => ?_) AllReadyH.nil
          try simp only [Act.put, List.getElem_toArray, List.getElem_cons_zero, List.getElem_cons_succ, List.setIfInBounds_toArray, List.set_cons_zero, List.set_cons_succ]
          go_simp
          refine hK.out _ _ ⟨o1, f0, f1⟩ (fun hS => ?_)
          clear hK K
          try simp only [Act.put, List.getElem_toArray, List.getElem_cons_zero, List.getElem_cons_succ, List.setIfInBounds_toArray, List.set_cons_zero, List.set_cons_succ]
          refine wpAnyH_ready (rs := [13]) (by kernel_rfl) (by simp) ?_
          refine AllReadyH.cons rfl (fun K hK => ?_) AllReadyH.nil
          try simp only [Act.put, List.getElem_toArray, List.getElem_cons_zero, List.getElem_cons_succ, List.setIfInBounds_toArray, List.set_cons_zero, List.set_cons_succ]
          go_simp
          have hlen : (pp.2.take 0 ++ (sect (crashFold s.dur (s.wr.take j) ks) q).drop 0).length = 64 := by have h1 := HSL.out; have h2 := HPL.out; simp only [List.length_append, List.length_take, List.length_drop]; omega
          refine (first_any w5.drew _ _ _ pp.2 HO.out HD.out HSL.out HPL.out 0 (by omega)).mono ?_
          rintro e w6 ⟨r, rfl, hr6, hb6⟩
          obtain ⟨ra6, rc6, hsh6⟩ := (hr6 NoB (fun _ h => h.elim)).shape
          rw [hlen] at hsh6
          subst hsh6
          have g0 := cell_below hb6 o1
          have g1 := cell_below hb6 f0
          have g2 := cell_below hb6 f1
          have g3 := cell_below hb6 l0
          have g4 := (World.frozen?_of_block (a := ⟨gc, q, none⟩) (hb6.block gc (World.block_lt_of_cell? w5 _ l0))).trans l1
          refine hK.out _ _ ⟨g0, g1, g2⟩ (fun hS => ?_)
          clear hK K
          try simp only [Act.put, List.getElem_toArray, List.getElem_cons_zero, List.getElem_cons_succ, List.setIfInBounds_toArray, List.set_cons_zero, List.set_cons_succ]
          refine wpAnyH_ready (rs := [14]) (by kernel_rfl) (by simp) ?_
          refine AllReadyH.cons rfl (fun K hK => ?_) AllReadyH.nil
          go_simp
          refine hK.out _ _ ⟨g0, g1, g2⟩ (fun hS => ?_)
          clear hK K
          try simp only [Act.put, List.getElem_toArray, List.getElem_cons_zero, List.getElem_cons_succ, List.setIfInBounds_toArray, List.set_cons_zero, List.set_cons_succ]
          refine wpAnyH_ready (rs := [15]) (by kernel_rfl) (by simp) ?_
          refine AllReadyH.cons rfl (fun K hK => ?_) AllReadyH.nil
          go_simp
          refine hK.out _ _ ⟨cell_other g0 (fun e => NE1 e.symm), cell_other g1 (fun e => NE2 e.symm), cell_other g2 (fun e => NE2 e.symm)⟩ (fun hS => ?_)
          clear hK K
          refine wpAnyH_done (by kernel_rfl) ?_ _
          try simp only [Act.put, List.getElem_toArray, List.getElem_cons_zero, List.getElem_cons_succ, List.setIfInBounds_toArray, List.set_cons_zero, List.set_cons_succ]
          go_wp2
          go_roundw
          case rel =>
            refine ⟨j + 1, by omega, by go_num, ?_⟩
            obtain ⟨J0, J1, J2, J3, -⟩ := INV.out
            have k1 : bx < wr.heap.size := by rw [Array.getElem?_eq_some_iff] at J1; exact J1.1
            have k2 : bx + 1 < wr.heap.size := by rw [Array.getElem?_eq_some_iff] at J2; exact J2.1
            have k3 : bo < wr.heap.size := by rw [Array.getElem?_eq_some_iff] at J3; exact J3.1
            have hz5 := HB5.out.size
            have keep : ∀ k, k < wr.heap.size → k ≠ gc → ∀ u, (w6.setCell ⟨gc, q, none⟩ u).heap[k]? = wr.heap[k]? := fun k hk hne u =>
              (heap_setCell_other w6 ⟨gc, q, none⟩ k u hne).trans ((hb6.block k (Nat.lt_of_lt_of_le hk hz5)).trans (HB5.out.block k hk))
            have hrow := (show RowOf w5.drew M w.heap.size gc cap n _ from HI5.out).below hb6
            have hgc : gc < w5.drew.heap.size := World.block_lt_of_cell? w5 _ l0
            have hM5 : ∀ b : Nat, (b = gc ∨ b = w.heap.size + 1 ∨ M b) → b < w5.drew.heap.size := by
              intro b hb
              rcases hb with hb | hb | hb
              · rw [hb]; exact hgc
              · rw [hb, hbx]; exact Nat.lt_of_lt_of_le k2 hz5
              · exact Nat.lt_of_lt_of_le (HM.out b hb) (Nat.le_trans J0.size hz5)
            have hput := hrow.put q hqn _ _ (hr6 (fun b => b = gc ∨ b = w.heap.size + 1 ∨ M b) hM5)
            have hs2 := HSS.out
            rw [hq, Int.toNat_natCast, hcut] at hs2
            refine ⟨((J0.trans (HB5.out.mono J0.size)).drew.trans (hb6.mono (Nat.le_trans J0.size hz5))).setCell GC.out _, (keep bx k1 (fun e => NE.out.2.1 e.symm) _).trans J1, (keep (bx + 1) k2 (fun e => NE.out.2.2 e.symm) _).trans J2, (keep bo k3 (fun e => NE.out.1 e.symm) _).trans J3, ?_⟩
            rw [hs2]
            exact hput
          case measure => simp [intOf]; omega
        · have hcut0 : cutAt ks j = cut ks[j] := by unfold cutAt; rw [dif_pos hk]
          obtain ⟨kb, ko, rfl, kcell⟩ := HKSw.out.at_ j hk
          have kcell := cell_below I0 kcell
          obtain ⟨y, hy⟩ : ∃ y, ks[j] = y := ⟨_, rfl⟩
          rw [hy] at kcell hcut0
          have hk1 : (j : Int) < (ks.length : Int) := by omega
          rcases cut_cases y with ⟨hy0, hc⟩ | ⟨c, rfl, hc64, hc⟩ | ⟨hy0, hc⟩
          · have hcut : cutAt ks j = 0 := by rw [hcut0, hc]
            clear hcut0 hc
            go_wp2_with (fail)
            obtain ⟨w5, hw5⟩ : ∃ w5, (w4.setCell ⟨bw, 0, none⟩ (.int .i64 (q : Int))).setCell ⟨bw, 1, none⟩ (.slice ua 64 uc) = w5 := ⟨_, rfl⟩
            have R5 : w5.heap[bw]? = some (.cells #[.int .i64 (q : Int), .slice ua 64 uc] 72 (0, 0)) := by
              rw [← hw5, heap_setCell_same _ bw 1 _ _ _ (heap_setCell_same w4 bw 0 _ _ (.int .i64 (q : Int)) R4'.out)]; rfl
            have B5 : Below wr.heap.size wr w5 := by rw [← hw5]; exact (B4'.out.setCell (Nat.le_of_eq hbw) _).setCell (Nat.le_of_eq hbw) _
            rw [hw5]
            have f0 : w5.cell? ⟨bw, 0, none⟩ = some (.int .i64 (q : Int)) := by rw [cell_of_row w5 bw 0 _ _ _ R5]; rfl
            have f1 : w5.cell? ⟨bw, 1, none⟩ = some (.slice ua 64 uc) := by rw [cell_of_row w5 bw 1 _ _ _ R5]; rfl
            have o1 := cell_below B5 o0
            have I5 := I4.below B5
            have hqn : q < n := by omega
            obtain ⟨rr, l0, l1, hrr⟩ := I5.cell q hqn
            have hL : ((sects (crashFold s.dur (s.wr.take j) ks) n)[q]?.getD []) = sect (crashFold s.dur (s.wr.take j) ks) q := by
              rw [List.getElem?_eq_getElem (by rw [sects_length]; exact hqn), sects_get]; rfl
            rw [hL] at hrr
            have hsl : (sect (crashFold s.dur (s.wr.take j) ks) q).length = 64 := sect_length (crashFold_length _ _ _ _ OK.out.dur (fun p hp => OK.out.wr p (List.mem_of_mem_take hp))) hqn
            obtain ⟨ra, rc, rfl⟩ : ∃ ra rc, rr = .slice ra 64 rc := by obtain ⟨a, c, hv, -⟩ := hrr; rw [hsl] at hv; exact ⟨a, c, hv⟩
            have HO : Hid (Bytes w5.drew NoB (.slice ra 64 rc) (sect (crashFold s.dur (s.wr.take j) ks) q)) := (Reads.wide hrr (fun _ _ h => h.elim)).step (Step.drew (Step.refl NoB w5))
            have HD : Hid (Bytes w5.drew NoB (.slice ua 64 uc) pp.2) := by
              have := (HU.out.step (Step.of_below B5 NoB)).step (Step.drew (Step.refl NoB w5))
              rw [hpo.2.2] at this; exact this
            have HQ : Hid ((q : Int) < n ∧ (0 : Int) ≤ q) := ⟨by omega, by omega⟩
            have hq0 := HQ.out.1
            have hq1 := HQ.out.2
            have hpl := hpo.2.2
            have HI5 := Lib.hid I5; have HB5 := Lib.hid B5; have HSL := Lib.hid hsl; have HPL := Lib.hid hpl
            clear x0 x1 x2 x3 x4 d1 d2 e0 e1 z R4' B4' hw5 hw4q I4 I5 B5 hL hrr hsl hpl o0
            have NE1 : gc ≠ bo := NE.out.1
            have NE2 : gc ≠ bw := by omega
            go_wp2_with (fail)
            refine wp_region_held_drew (S := fun w' => w'.cell? ⟨bo, 0, none⟩ = some (.slice (some ⟨gc, 0, none⟩) n cap) ∧ w'.cell? ⟨bw, 0, none⟩ = some (.int .i64 (q : Int)) ∧ w'.cell? ⟨bw, 1, none⟩ = some (.slice ua 64 uc)) (by kernel_rfl) ⟨o1, f0, f1⟩ (fun hS => ?_)
            refine wpAnyH_take (i := 0) (v := .pointer (some ⟨bo, 0, none⟩)) rfl (by kernel_rfl) (by kernel_rfl) (by kernel_rfl) (fun _ _ _ h => h) (Or.inl ⟨by rfl, ?_⟩) hS ?_
            · intro w hSw
              go_split_ands
              go_simp
            try simp only [Act.put, List.getElem_toArray, List.getElem_cons_zero, List.getElem_cons_succ, List.setIfInBounds_toArray, List.set_cons_zero, List.set_cons_succ]
            refine wpAnyH_take (i := 1) (v := .slice (some ⟨gc, 0, none⟩) n cap) rfl (by kernel_rfl) (by kernel_rfl) (by kernel_rfl) (fun _ _ _ h => h) (Or.inl ⟨by rfl, ?_⟩) hS ?_
            · intro w hSw
              go_split_ands
              go_simp
            try simp only [Act.put, List.getElem_toArray, List.getElem_cons_zero, List.getElem_cons_succ, List.setIfInBounds_toArray, List.set_cons_zero, List.set_cons_succ]
            refine wpAnyH_take (i := 2) (v := .pointer (some ⟨bw, 0, none⟩)) rfl (by kernel_rfl) (by kernel_rfl) (by kernel_rfl) (fun _ _ _ h => h) (Or.inl ⟨by rfl, ?_⟩) hS ?_
            · intro w hSw
              go_split_ands
              go_simp
            try simp only [Act.put, List.getElem_toArray, List.getElem_cons_zero, List.getElem_cons_succ, List.setIfInBounds_toArray, List.set_cons_zero, List.set_cons_succ]
            refine wpAnyH_take (i := 3) (v := .int .i64 (q : Int)) rfl (by kernel_rfl) (by kernel_rfl) (by kernel_rfl) (fun _ _ _ h => h) (Or.inl ⟨by rfl, ?_⟩) hS ?_
            · intro w hSw
              go_split_ands
              go_simp
            try simp only [Act.put, List.getElem_toArray, List.getElem_cons_zero, List.getElem_cons_succ, List.setIfInBounds_toArray, List.set_cons_zero, List.set_cons_succ]
            refine wpAnyH_take (i := 4) (v := .pointer (some ⟨bo, 0, none⟩)) rfl (by kernel_rfl) (by kernel_rfl) (by kernel_rfl) (fun _ _ _ h => h) (Or.inl ⟨by rfl, ?_⟩) hS ?_
            · intro w hSw
              go_split_ands
              go_simp
            try simp only [Act.put, List.getElem_toArray, List.getElem_cons_zero, List.getElem_cons_succ, List.setIfInBounds_toArray, List.set_cons_zero, List.set_cons_succ]
            refine wpAnyH_take (i := 5) (v := .slice (some ⟨gc, 0, none⟩) n cap) rfl (by kernel_rfl) (by kernel_rfl) (by kernel_rfl) (fun _ _ _ h => h) (Or.inl ⟨by rfl, ?_⟩) hS ?_
            · intro w hSw
              go_split_ands
              go_simp
            try simp only [Act.put, List.getElem_toArray, List.getElem_cons_zero, List.getElem_cons_succ, List.setIfInBounds_toArray, List.set_cons_zero, List.set_cons_succ]
            refine wpAnyH_take (i := 6) (v := .pointer (some ⟨bw, 0, none⟩)) rfl (by kernel_rfl) (by kernel_rfl) (by kernel_rfl) (fun _ _ _ h => h) (Or.inl ⟨by rfl, ?_⟩) hS ?_
            · intro w hSw
              go_split_ands
              go_simp
            try simp only [Act.put, List.getElem_toArray, List.getElem_cons_zero, List.getElem_cons_succ, List.setIfInBounds_toArray, List.set_cons_zero, List.set_cons_succ]
            refine wpAnyH_take (i := 7) (v := .int .i64 (q : Int)) rfl (by kernel_rfl) (by kernel_rfl) (by kernel_rfl) (fun _ _ _ h => h) (Or.inl ⟨by rfl, ?_⟩) hS ?_
            · intro w hSw
              go_split_ands
              go_simp
            try simp only [Act.put, List.getElem_toArray, List.getElem_cons_zero, List.getElem_cons_succ, List.setIfInBounds_toArray, List.set_cons_zero, List.set_cons_succ]
            refine wpAnyH_take (i := 8) (v := .pointer (some ⟨gc, q, none⟩)) rfl (by kernel_rfl) (by kernel_rfl) (by kernel_rfl) (fun _ _ _ h => h) (Or.inl ⟨by rfl, ?_⟩) hS ?_
            · intro w hSw
              go_split_ands
              go_simp
            try simp only [Act.put, List.getElem_toArray, List.getElem_cons_zero, List.getElem_cons_succ, List.setIfInBounds_toArray, List.set_cons_zero, List.set_cons_succ]
            refine wpAnyH_take (i := 10) (v := .pointer (some ⟨bw, 1, none⟩)) rfl (by kernel_rfl) (by kernel_rfl) (by kernel_rfl) (fun _ _ _ h => h) (Or.inl ⟨by rfl, ?_⟩) hS ?_
            · intro w hSw
              go_split_ands
              go_simp
            try simp only [Act.put, List.getElem_toArray, List.getElem_cons_zero, List.getElem_cons_succ, List.setIfInBounds_toArray, List.set_cons_zero, List.set_cons_succ]
            refine wpAnyH_take (i := 11) (v := .slice ua 64 uc) rfl (by kernel_rfl) (by kernel_rfl) (by kernel_rfl) (fun _ _ _ h => h) (Or.inl ⟨by rfl, ?_⟩) hS ?_
            · intro w hSw
              go_split_ands
              go_simp
            try simp only [Act.put, List.getElem_toArray, List.getElem_cons_zero, List.getElem_cons_succ, List.setIfInBounds_toArray, List.set_cons_zero, List.set_cons_succ]
            refine wpAnyH_take (i := 12) (v := .int .i64 0) rfl (by kernel_rfl) (by kernel_rfl) (by kernel_rfl) (fun _ _ _ h => h) (Or.inl ⟨by rfl, ?_⟩) hS ?_
            · intro w hSw
              go_split_ands
              go_simp
            try simp only [Act.put, List.getElem_toArray, List.getElem_cons_zero, List.getElem_cons_succ, List.setIfInBounds_toArray, List.set_cons_zero, List.set_cons_succ]
            refine wpAnyH_ready (rs := [9]) (by kernel_rfl) (by simp) ?_
            refine AllReadyH.cons rfl (fun K hK => ?_) AllReadyH.nil
            try simp only [Act.put, List.getElem_toArray, List.getElem_cons_zero, List.getElem_cons_succ, List.setIfInBounds_toArray, List.set_cons_zero, List.set_cons_succ]
            go_simp
            refine hK.out _ _ ⟨o1, f0, f1⟩ (fun hS => ?_)
            clear hK K
            try simp only [Act.put, List.getElem_toArray, List.getElem_cons_zero, List.getElem_cons_succ, List.setIfInBounds_toArray, List.set_cons_zero, List.set_cons_succ]
            refine wpAnyH_ready (rs := [13]) (by kernel_rfl) (by simp) ?_
            refine AllReadyH.cons rfl (fun K hK => ?_) AllReadyH.nil
            try simp only [Act.put, List.getElem_toArray, List.getElem_cons_zero, List.getElem_cons_succ, List.setIfInBounds_toArray, List.set_cons_zero, List.set_cons_succ]
            go_simp
            have hlen : (pp.2.take 0 ++ (sect (crashFold s.dur (s.wr.take j) ks) q).drop 0).length = 64 := by have h1 := HSL.out; have h2 := HPL.out; simp only [List.length_append, List.length_take, List.length_drop]; omega
            refine (first_any w5.drew _ _ _ pp.2 HO.out HD.out HSL.out HPL.out 0 (by omega)).mono ?_
            rintro e w6 ⟨r, rfl, hr6, hb6⟩
            obtain ⟨ra6, rc6, hsh6⟩ := (hr6 NoB (fun _ h => h.elim)).shape
            rw [hlen] at hsh6
            subst hsh6
            have g0 := cell_below hb6 o1
            have g1 := cell_below hb6 f0
            have g2 := cell_below hb6 f1
            have g3 := cell_below hb6 l0
            have g4 := (World.frozen?_of_block (a := ⟨gc, q, none⟩) (hb6.block gc (World.block_lt_of_cell? w5 _ l0))).trans l1
            refine hK.out _ _ ⟨g0, g1, g2⟩ (fun hS => ?_)
            clear hK K
            try simp only [Act.put, List.getElem_toArray, List.getElem_cons_zero, List.getElem_cons_succ, List.setIfInBounds_toArray, List.set_cons_zero, List.set_cons_succ]
            refine wpAnyH_ready (rs := [14]) (by kernel_rfl) (by simp) ?_
            refine AllReadyH.cons rfl (fun K hK => ?_) AllReadyH.nil
            go_simp
            refine hK.out _ _ ⟨g0, g1, g2⟩ (fun hS => ?_)
            clear hK K
            try simp only [Act.put, List.getElem_toArray, List.getElem_cons_zero, List.getElem_cons_succ, List.setIfInBounds_toArray, List.set_cons_zero, List.set_cons_succ]
            refine wpAnyH_ready (rs := [15]) (by kernel_rfl) (by simp) ?_
            refine AllReadyH.cons rfl (fun K hK => ?_) AllReadyH.nil
            go_simp
            refine hK.out _ _ ⟨cell_other g0 (fun e => NE1 e.symm), cell_other g1 (fun e => NE2 e.symm), cell_other g2 (fun e => NE2 e.symm)⟩ (fun hS => ?_)
            clear hK K
            refine wpAnyH_done (by kernel_rfl) ?_ _
            try simp only [Act.put, List.getElem_toArray, List.getElem_cons_zero, List.getElem_cons_succ, List.setIfInBounds_toArray, List.set_cons_zero, List.set_cons_succ]
            go_wp2
            go_roundw
            case rel =>
              refine ⟨j + 1, by omega, by go_num, ?_⟩
              obtain ⟨J0, J1, J2, J3, -⟩ := INV.out
              have k1 : bx < wr.heap.size := by rw [Array.getElem?_eq_some_iff] at J1; exact J1.1
              have k2 : bx + 1 < wr.heap.size := by rw [Array.getElem?_eq_some_iff] at J2; exact J2.1
              have k3 : bo < wr.heap.size := by rw [Array.getElem?_eq_some_iff] at J3; exact J3.1
              have hz5 := HB5.out.size
              have keep : ∀ k, k < wr.heap.size → k ≠ gc → ∀ u, (w6.setCell ⟨gc, q, none⟩ u).heap[k]? = wr.heap[k]? := fun k hk hne u =>
                (heap_setCell_other w6 ⟨gc, q, none⟩ k u hne).trans ((hb6.block k (Nat.lt_of_lt_of_le hk hz5)).trans (HB5.out.block k hk))
              have hrow := (show RowOf w5.drew M w.heap.size gc cap n _ from HI5.out).below hb6
              have hgc : gc < w5.drew.heap.size := World.block_lt_of_cell? w5 _ l0
              have hM5 : ∀ b : Nat, (b = gc ∨ b = w.heap.size + 1 ∨ M b) → b < w5.drew.heap.size := by
                intro b hb
                rcases hb with hb | hb | hb
                · rw [hb]; exact hgc
                · rw [hb, hbx]; exact Nat.lt_of_lt_of_le k2 hz5
                · exact Nat.lt_of_lt_of_le (HM.out b hb) (Nat.le_trans J0.size hz5)
              have hput := hrow.put q hqn _ _ (hr6 (fun b => b = gc ∨ b = w.heap.size + 1 ∨ M b) hM5)
              have hs2 := HSS.out
              rw [hq, Int.toNat_natCast, hcut] at hs2
              refine ⟨((J0.trans (HB5.out.mono J0.size)).drew.trans (hb6.mono (Nat.le_trans J0.size hz5))).setCell GC.out _, (keep bx k1 (fun e => NE.out.2.1 e.symm) _).trans J1, (keep (bx + 1) k2 (fun e => NE.out.2.2 e.symm) _).trans J2, (keep bo k3 (fun e => NE.out.1 e.symm) _).trans J3, ?_⟩
              rw [hs2]
              exact hput
            case measure => simp [intOf]; omega
          · have hcut : cutAt ks j = c := by rw [hcut0, hc]
            have hc64' : (c : Int) ≤ 64 := by omega
            have hc0' : (0 : Int) ≤ (c : Int) := by omega
            clear hcut0 hc
            go_wp2_with (fail)
            obtain ⟨w5, hw5⟩ : ∃ w5, (w4.setCell ⟨bw, 0, none⟩ (.int .i64 (q : Int))).setCell ⟨bw, 1, none⟩ (.slice ua 64 uc) = w5 := ⟨_, rfl⟩
            have R5 : w5.heap[bw]? = some (.cells #[.int .i64 (q : Int), .slice ua 64 uc] 72 (0, 0)) := by
              rw [← hw5, heap_setCell_same _ bw 1 _ _ _ (heap_setCell_same w4 bw 0 _ _ (.int .i64 (q : Int)) R4'.out)]; rfl
            have B5 : Below wr.heap.size wr w5 := by rw [← hw5]; exact (B4'.out.setCell (Nat.le_of_eq hbw) _).setCell (Nat.le_of_eq hbw) _
            rw [hw5]
            have f0 : w5.cell? ⟨bw, 0, none⟩ = some (.int .i64 (q : Int)) := by rw [cell_of_row w5 bw 0 _ _ _ R5]; rfl
            have f1 : w5.cell? ⟨bw, 1, none⟩ = some (.slice ua 64 uc) := by rw [cell_of_row w5 bw 1 _ _ _ R5]; rfl
            have o1 := cell_below B5 o0
            have I5 := I4.below B5
            have hqn : q < n := by omega
            obtain ⟨rr, l0, l1, hrr⟩ := I5.cell q hqn
            have hL : ((sects (crashFold s.dur (s.wr.take j) ks) n)[q]?.getD []) = sect (crashFold s.dur (s.wr.take j) ks) q := by
              rw [List.getElem?_eq_getElem (by rw [sects_length]; exact hqn), sects_get]; rfl
            rw [hL] at hrr
            have hsl : (sect (crashFold s.dur (s.wr.take j) ks) q).length = 64 := sect_length (crashFold_length _ _ _ _ OK.out.dur (fun p hp => OK.out.wr p (List.mem_of_mem_take hp))) hqn
            obtain ⟨ra, rc, rfl⟩ : ∃ ra rc, rr = .slice ra 64 rc := by obtain ⟨a, c, hv, -⟩ := hrr; rw [hsl] at hv; exact ⟨a, c, hv⟩
            have HO : Hid (Bytes w5.drew NoB (.slice ra 64 rc) (sect (crashFold s.dur (s.wr.take j) ks) q)) := (Reads.wide hrr (fun _ _ h => h.elim)).step (Step.drew (Step.refl NoB w5))
            have HD : Hid (Bytes w5.drew NoB (.slice ua 64 uc) pp.2) := by
              have := (HU.out.step (Step.of_below B5 NoB)).step (Step.drew (Step.refl NoB w5))
              rw [hpo.2.2] at this; exact this
            have HQ : Hid ((q : Int) < n ∧ (0 : Int) ≤ q) := ⟨by omega, by omega⟩
            have hq0 := HQ.out.1
            have hq1 := HQ.out.2
            have hpl := hpo.2.2
            have HI5 := Lib.hid I5; have HB5 := Lib.hid B5; have HSL := Lib.hid hsl; have HPL := Lib.hid hpl
            clear x0 x1 x2 x3 x4 d1 d2 e0 e1 z R4' B4' hw5 hw4q I4 I5 B5 hL hrr hsl hpl o0
            have NE1 : gc ≠ bo := NE.out.1
            have NE2 : gc ≠ bw := by omega
            go_wp2_with (fail)
            refine wp_region_held_drew (S := fun w' => w'.cell? ⟨bo, 0, none⟩ = some (.slice (some ⟨gc, 0, none⟩) n cap) ∧ w'.cell? ⟨bw, 0, none⟩ = some (.int .i64 (q : Int)) ∧ w'.cell? ⟨bw, 1, none⟩ = some (.slice ua 64 uc)) (by kernel_rfl) ⟨o1, f0, f1⟩ (fun hS => ?_)
            refine wpAnyH_take (i := 0) (v := .pointer (some ⟨bo, 0, none⟩)) rfl (by kernel_rfl) (by kernel_rfl) (by kernel_rfl) (fun _ _ _ h => h) (Or.inl ⟨by rfl, ?_⟩) hS ?_
            · intro w hSw
              go_split_ands
              go_simp
            try simp only [Act.put, List.getElem_toArray, List.getElem_cons_zero, List.getElem_cons_succ, List.setIfInBounds_toArray, List.set_cons_zero, List.set_cons_succ]
            refine wpAnyH_take (i := 1) (v := .slice (some ⟨gc, 0, none⟩) n cap) rfl (by kernel_rfl) (by kernel_rfl) (by kernel_rfl) (fun _ _ _ h => h) (Or.inl ⟨by rfl, ?_⟩) hS ?_
            · intro w hSw
              go_split_ands
              go_simp
            try simp only [Act.put, List.getElem_toArray, List.getElem_cons_zero, List.getElem_cons_succ, List.setIfInBounds_toArray, List.set_cons_zero, List.set_cons_succ]
            refine wpAnyH_take (i := 2) (v := .pointer (some ⟨bw, 0, none⟩)) rfl (by kernel_rfl) (by kernel_rfl) (by kernel_rfl) (fun _ _ _ h => h) (Or.inl ⟨by rfl, ?_⟩) hS ?_
            · intro w hSw
              go_split_ands
              go_simp
            try simp only [Act.put, List.getElem_toArray, List.getElem_cons_zero, List.getElem_cons_succ, List.setIfInBounds_toArray, List.set_cons_zero, List.set_cons_succ]
            refine wpAnyH_take (i := 3) (v := .int .i64 (q : Int)) rfl (by kernel_rfl) (by kernel_rfl) (by kernel_rfl) (fun _ _ _ h => h) (Or.inl ⟨by rfl, ?_⟩) hS ?_
            · intro w hSw
              go_split_ands
              go_simp
            try simp only [Act.put, List.getElem_toArray, List.getElem_cons_zero, List.getElem_cons_succ, List.setIfInBounds_toArray, List.set_cons_zero, List.set_cons_succ]
            refine wpAnyH_take (i := 4) (v := .pointer (some ⟨bo, 0, none⟩)) rfl (by kernel_rfl) (by kernel_rfl) (by kernel_rfl) (fun _ _ _ h => h) (Or.inl ⟨by rfl, ?_⟩) hS ?_
            · intro w hSw
              go_split_ands
              go_simp
            try simp only [Act.put, List.getElem_toArray, List.getElem_cons_zero, List.getElem_cons_succ, List.setIfInBounds_toArray, List.set_cons_zero, List.set_cons_succ]
            refine wpAnyH_take (i := 5) (v := .slice (some ⟨gc, 0, none⟩) n cap) rfl (by kernel_rfl) (by kernel_rfl) (by kernel_rfl) (fun _ _ _ h => h) (Or.inl ⟨by rfl, ?_⟩) hS ?_
            · intro w hSw
              go_split_ands
              go_simp
            try simp only [Act.put, List.getElem_toArray, List.getElem_cons_zero, List.getElem_cons_succ, List.setIfInBounds_toArray, List.set_cons_zero, List.set_cons_succ]
            refine wpAnyH_take (i := 6) (v := .pointer (some ⟨bw, 0, none⟩)) rfl (by kernel_rfl) (by kernel_rfl) (by kernel_rfl) (fun _ _ _ h => h) (Or.inl ⟨by rfl, ?_⟩) hS ?_
            · intro w hSw
              go_split_ands
              go_simp
            try simp only [Act.put, List.getElem_toArray, List.getElem_cons_zero, List.getElem_cons_succ, List.setIfInBounds_toArray, List.set_cons_zero, List.set_cons_succ]
            refine wpAnyH_take (i := 7) (v := .int .i64 (q : Int)) rfl (by kernel_rfl) (by kernel_rfl) (by kernel_rfl) (fun _ _ _ h => h) (Or.inl ⟨by rfl, ?_⟩) hS ?_
            · intro w hSw
              go_split_ands
              go_simp
            try simp only [Act.put, List.getElem_toArray, List.getElem_cons_zero, List.getElem_cons_succ, List.setIfInBounds_toArray, List.set_cons_zero, List.set_cons_succ]
            refine wpAnyH_take (i := 8) (v := .pointer (some ⟨gc, q, none⟩)) rfl (by kernel_rfl) (by kernel_rfl) (by kernel_rfl) (fun _ _ _ h => h) (Or.inl ⟨by rfl, ?_⟩) hS ?_
            · intro w hSw
              go_split_ands
              go_simp
            try simp only [Act.put, List.getElem_toArray, List.getElem_cons_zero, List.getElem_cons_succ, List.setIfInBounds_toArray, List.set_cons_zero, List.set_cons_succ]
            refine wpAnyH_take (i := 10) (v := .pointer (some ⟨bw, 1, none⟩)) rfl (by kernel_rfl) (by kernel_rfl) (by kernel_rfl) (fun _ _ _ h => h) (Or.inl ⟨by rfl, ?_⟩) hS ?_
            · intro w hSw
              go_split_ands
              go_simp
            try simp only [Act.put, List.getElem_toArray, List.getElem_cons_zero, List.getElem_cons_succ, List.setIfInBounds_toArray, List.set_cons_zero, List.set_cons_succ]
            refine wpAnyH_take (i := 11) (v := .slice ua 64 uc) rfl (by kernel_rfl) (by kernel_rfl) (by kernel_rfl) (fun _ _ _ h => h) (Or.inl ⟨by rfl, ?_⟩) hS ?_
            · intro w hSw
              go_split_ands
              go_simp
            try simp only [Act.put, List.getElem_toArray, List.getElem_cons_zero, List.getElem_cons_succ, List.setIfInBounds_toArray, List.set_cons_zero, List.set_cons_succ]
            refine wpAnyH_take (i := 12) (v := .int .i64 (c : Int)) rfl (by kernel_rfl) (by kernel_rfl) (by kernel_rfl) (fun _ _ _ h => h) (Or.inl ⟨by rfl, ?_⟩) hS ?_
            · intro w hSw
              go_split_ands
              go_simp
            try simp only [Act.put, List.getElem_toArray, List.getElem_cons_zero, List.getElem_cons_succ, List.setIfInBounds_toArray, List.set_cons_zero, List.set_cons_succ]
            refine wpAnyH_ready (rs := [9]) (by kernel_rfl) (by simp) ?_
            refine AllReadyH.cons rfl (fun K hK => ?_) AllReadyH.nil
            try simp only [Act.put, List.getElem_toArray, List.getElem_cons_zero, List.getElem_cons_succ, List.setIfInBounds_toArray, List.set_cons_zero, List.set_cons_succ]
            go_simp
            refine hK.out _ _ ⟨o1, f0, f1⟩ (fun hS => ?_)
            clear hK K
            try simp only [Act.put, List.getElem_toArray, List.getElem_cons_zero, List.getElem_cons_succ, List.setIfInBounds_toArray, List.set_cons_zero, List.set_cons_succ]
            refine wpAnyH_ready (rs := [13]) (by kernel_rfl) (by simp) ?_
            refine AllReadyH.cons rfl (fun K hK => ?_) AllReadyH.nil
            try simp only [Act.put, List.getElem_toArray, List.getElem_cons_zero, List.getElem_cons_succ, List.setIfInBounds_toArray, List.set_cons_zero, List.set_cons_succ]
            go_simp
            have hlen : (pp.2.take c ++ (sect (crashFold s.dur (s.wr.take j) ks) q).drop c).length = 64 := by have h1 := HSL.out; have h2 := HPL.out; simp only [List.length_append, List.length_take, List.length_drop]; omega
            refine (first_any w5.drew _ _ _ pp.2 HO.out HD.out HSL.out HPL.out c (by omega)).mono ?_
            rintro e w6 ⟨r, rfl, hr6, hb6⟩
            obtain ⟨ra6, rc6, hsh6⟩ := (hr6 NoB (fun _ h => h.elim)).shape
            rw [hlen] at hsh6
            subst hsh6
            have g0 := cell_below hb6 o1
            have g1 := cell_below hb6 f0
            have g2 := cell_below hb6 f1
            have g3 := cell_below hb6 l0
            have g4 := (World.frozen?_of_block (a := ⟨gc, q, none⟩) (hb6.block gc (World.block_lt_of_cell? w5 _ l0))).trans l1
            refine hK.out _ _ ⟨g0, g1, g2⟩ (fun hS => ?_)
            clear hK K
            try simp only [Act.put, List.getElem_toArray, List.getElem_cons_zero, List.getElem_cons_succ, List.setIfInBounds_toArray, List.set_cons_zero, List.set_cons_succ]
            refine wpAnyH_ready (rs := [14]) (by kernel_rfl) (by simp) ?_
            refine AllReadyH.cons rfl (fun K hK => ?_) AllReadyH.nil
            go_simp
            refine hK.out _ _ ⟨g0, g1, g2⟩ (fun hS => ?_)
            clear hK K
            try simp only [Act.put, List.getElem_toArray, List.getElem_cons_zero, List.getElem_cons_succ, List.setIfInBounds_toArray, List.set_cons_zero, List.set_cons_succ]
            refine wpAnyH_ready (rs := [15]) (by kernel_rfl) (by simp) ?_
            refine AllReadyH.cons rfl (fun K hK => ?_) AllReadyH.nil
            go_simp
            refine hK.out _ _ ⟨cell_other g0 (fun e => NE1 e.symm), cell_other g1 (fun e => NE2 e.symm), cell_other g2 (fun e => NE2 e.symm)⟩ (fun hS => ?_)
            clear hK K
            refine wpAnyH_done (by kernel_rfl) ?_ _
            try simp only [Act.put, List.getElem_toArray, List.getElem_cons_zero, List.getElem_cons_succ, List.setIfInBounds_toArray, List.set_cons_zero, List.set_cons_succ]
            go_wp2
            go_roundw
            case rel =>
              refine ⟨j + 1, by omega, by go_num, ?_⟩
              obtain ⟨J0, J1, J2, J3, -⟩ := INV.out
              have k1 : bx < wr.heap.size := by rw [Array.getElem?_eq_some_iff] at J1; exact J1.1
              have k2 : bx + 1 < wr.heap.size := by rw [Array.getElem?_eq_some_iff] at J2; exact J2.1
              have k3 : bo < wr.heap.size := by rw [Array.getElem?_eq_some_iff] at J3; exact J3.1
              have hz5 := HB5.out.size
              have keep : ∀ k, k < wr.heap.size → k ≠ gc → ∀ u, (w6.setCell ⟨gc, q, none⟩ u).heap[k]? = wr.heap[k]? := fun k hk hne u =>
                (heap_setCell_other w6 ⟨gc, q, none⟩ k u hne).trans ((hb6.block k (Nat.lt_of_lt_of_le hk hz5)).trans (HB5.out.block k hk))
              have hrow := (show RowOf w5.drew M w.heap.size gc cap n _ from HI5.out).below hb6
              have hgc : gc < w5.drew.heap.size := World.block_lt_of_cell? w5 _ l0
              have hM5 : ∀ b : Nat, (b = gc ∨ b = w.heap.size + 1 ∨ M b) → b < w5.drew.heap.size := by
                intro b hb
                rcases hb with hb | hb | hb
                · rw [hb]; exact hgc
                · rw [hb, hbx]; exact Nat.lt_of_lt_of_le k2 hz5
                · exact Nat.lt_of_lt_of_le (HM.out b hb) (Nat.le_trans J0.size hz5)
              have hput := hrow.put q hqn _ _ (hr6 (fun b => b = gc ∨ b = w.heap.size + 1 ∨ M b) hM5)
              have hs2 := HSS.out
              rw [hq, Int.toNat_natCast, hcut] at hs2
              refine ⟨((J0.trans (HB5.out.mono J0.size)).drew.trans (hb6.mono (Nat.le_trans J0.size hz5))).setCell GC.out _, (keep bx k1 (fun e => NE.out.2.1 e.symm) _).trans J1, (keep (bx + 1) k2 (fun e => NE.out.2.2 e.symm) _).trans J2, (keep bo k3 (fun e => NE.out.1 e.symm) _).trans J3, ?_⟩
              rw [hs2]
              exact hput
            case measure => simp [intOf]; omega
          · have hcut : cutAt ks j = 64 := by rw [hcut0, hc]
            clear hcut0 hc
            go_wp2_with (fail)
            obtain ⟨w5, hw5⟩ : ∃ w5, (w4.setCell ⟨bw, 0, none⟩ (.int .i64 (q : Int))).setCell ⟨bw, 1, none⟩ (.slice ua 64 uc) = w5 := ⟨_, rfl⟩
            have R5 : w5.heap[bw]? = some (.cells #[.int .i64 (q : Int), .slice ua 64 uc] 72 (0, 0)) := by
              rw [← hw5, heap_setCell_same _ bw 1 _ _ _ (heap_setCell_same w4 bw 0 _ _ (.int .i64 (q : Int)) R4'.out)]; rfl
            have B5 : Below wr.heap.size wr w5 := by rw [← hw5]; exact (B4'.out.setCell (Nat.le_of_eq hbw) _).setCell (Nat.le_of_eq hbw) _
            rw [hw5]
            have f0 : w5.cell? ⟨bw, 0, none⟩ = some (.int .i64 (q : Int)) := by rw [cell_of_row w5 bw 0 _ _ _ R5]; rfl
            have f1 : w5.cell? ⟨bw, 1, none⟩ = some (.slice ua 64 uc) := by rw [cell_of_row w5 bw 1 _ _ _ R5]; rfl
            have o1 := cell_below B5 o0
            have I5 := I4.below B5
            have hqn : q < n := by omega
            obtain ⟨rr, l0, l1, hrr⟩ := I5.cell q hqn
            have hL : ((sects (crashFold s.dur (s.wr.take j) ks) n)[q]?.getD []) = sect (crashFold s.dur (s.wr.take j) ks) q := by
              rw [List.getElem?_eq_getElem (by rw [sects_length]; exact hqn), sects_get]; rfl
            rw [hL] at hrr
            have hsl : (sect (crashFold s.dur (s.wr.take j) ks) q).length = 64 := sect_length (crashFold_length _ _ _ _ OK.out.dur (fun p hp => OK.out.wr p (List.mem_of_mem_take hp))) hqn
            obtain ⟨ra, rc, rfl⟩ : ∃ ra rc, rr = .slice ra 64 rc := by obtain ⟨a, c, hv, -⟩ := hrr; rw [hsl] at hv; exact ⟨a, c, hv⟩
            have HO : Hid (Bytes w5.drew NoB (.slice ra 64 rc) (sect (crashFold s.dur (s.wr.take j) ks) q)) := (Reads.wide hrr (fun _ _ h => h.elim)).step (Step.drew (Step.refl NoB w5))
            have HD : Hid (Bytes w5.drew NoB (.slice ua 64 uc) pp.2) := by
              have := (HU.out.step (Step.of_below B5 NoB)).step (Step.drew (Step.refl NoB w5))
              rw [hpo.2.2] at this; exact this
            have HQ : Hid ((q : Int) < n ∧ (0 : Int) ≤ q) := ⟨by omega, by omega⟩
            have hq0 := HQ.out.1
            have hq1 := HQ.out.2
            have hpl := hpo.2.2
            have HI5 := Lib.hid I5; have HB5 := Lib.hid B5; have HSL := Lib.hid hsl; have HPL := Lib.hid hpl
            clear x0 x1 x2 x3 x4 d1 d2 e0 e1 z R4' B4' hw5 hw4q I4 I5 B5 hL hrr hsl hpl o0
            have NE1 : gc ≠ bo := NE.out.1
            have NE2 : gc ≠ bw := by omega
            go_wp2_with (fail)
            refine wp_region_held_drew (S := fun w' => w'.cell? ⟨bo, 0, none⟩ = some (.slice (some ⟨gc, 0, none⟩) n cap) ∧ w'.cell? ⟨bw, 0, none⟩ = some (.int .i64 (q : Int)) ∧ w'.cell? ⟨bw, 1, none⟩ = some (.slice ua 64 uc)) (by kernel_rfl) ⟨o1, f0, f1⟩ (fun hS => ?_)
            refine wpAnyH_take (i := 0) (v := .pointer (some ⟨bo, 0, none⟩)) rfl (by kernel_rfl) (by kernel_rfl) (by kernel_rfl) (fun _ _ _ h => h) (Or.inl ⟨by rfl, ?_⟩) hS ?_
            · intro w hSw
              go_split_ands
              go_simp
            try simp only [Act.put, List.getElem_toArray, List.getElem_cons_zero, List.getElem_cons_succ, List.setIfInBounds_toArray, List.set_cons_zero, List.set_cons_succ]
            refine wpAnyH_take (i := 1) (v := .slice (some ⟨gc, 0, none⟩) n cap) rfl (by kernel_rfl) (by kernel_rfl) (by kernel_rfl) (fun _ _ _ h => h) (Or.inl ⟨by rfl, ?_⟩) hS ?_
            · intro w hSw
              go_split_ands
              go_simp
            try simp only [Act.put, List.getElem_toArray, List.getElem_cons_zero, List.getElem_cons_succ, List.setIfInBounds_toArray, List.set_cons_zero, List.set_cons_succ]
            refine wpAnyH_take (i := 2) (v := .pointer (some ⟨bw, 0, none⟩)) rfl (by kernel_rfl) (by kernel_rfl) (by kernel_rfl) (fun _ _ _ h => h) (Or.inl ⟨by rfl, ?_⟩) hS ?_
            · intro w hSw
              go_split_ands
              go_simp
            try simp only [Act.put, List.getElem_toArray, List.getElem_cons_zero, List.getElem_cons_succ, List.setIfInBounds_toArray, List.set_cons_zero, List.set_cons_succ]
            refine wpAnyH_take (i := 3) (v := .int .i64 (q : Int)) rfl (by kernel_rfl) (by kernel_rfl) (by kernel_rfl) (fun _ _ _ h => h) (Or.inl ⟨by rfl, ?_⟩) hS ?_
            · intro w hSw
              go_split_ands
              go_simp
            try simp only [Act.put, List.getElem_toArray, List.getElem_cons_zero, List.getElem_cons_succ, List.setIfInBounds_toArray, List.set_cons_zero, List.set_cons_succ]
            refine wpAnyH_take (i := 4) (v := .pointer (some ⟨bo, 0, none⟩)) rfl (by kernel_rfl) (by kernel_rfl) (by kernel_rfl) (fun _ _ _ h => h) (Or.inl ⟨by rfl, ?_⟩) hS ?_
            · intro w hSw
              go_split_ands
              go_simp
            try simp only [Act.put, List.getElem_toArray, List.getElem_cons_zero, List.getElem_cons_succ, List.setIfInBounds_toArray, List.set_cons_zero, List.set_cons_succ]
            refine wpAnyH_take (i := 5) (v := .slice (some ⟨gc, 0, none⟩) n cap) rfl (by kernel_rfl) (by kernel_rfl) (by kernel_rfl) (fun _ _ _ h => h) (Or.inl ⟨by rfl, ?_⟩) hS ?_
            · intro w hSw
              go_split_ands
              go_simp
            try simp only [Act.put, List.getElem_toArray, List.getElem_cons_zero, List.getElem_cons_succ, List.setIfInBounds_toArray, List.set_cons_zero, List.set_cons_succ]
            refine wpAnyH_take (i := 6) (v := .pointer (some ⟨bw, 0, none⟩)) rfl (by kernel_rfl) (by kernel_rfl) (by kernel_rfl) (fun _ _ _ h => h) (Or.inl ⟨by rfl, ?_⟩) hS ?_
            · intro w hSw
              go_split_ands
              go_simp
            try simp only [Act.put, List.getElem_toArray, List.getElem_cons_zero, List.getElem_cons_succ, List.setIfInBounds_toArray, List.set_cons_zero, List.set_cons_succ]
            refine wpAnyH_take (i := 7) (v := .int .i64 (q : Int)) rfl (by kernel_rfl) (by kernel_rfl) (by kernel_rfl) (fun _ _ _ h => h) (Or.inl ⟨by rfl, ?_⟩) hS ?_
            · intro w hSw
              go_split_ands
              go_simp
            try simp only [Act.put, List.getElem_toArray, List.getElem_cons_zero, List.getElem_cons_succ, List.setIfInBounds_toArray, List.set_cons_zero, List.set_cons_succ]
            refine wpAnyH_take (i := 8) (v := .pointer (some ⟨gc, q, none⟩)) rfl (by kernel_rfl) (by kernel_rfl) (by kernel_rfl) (fun _ _ _ h => h) (Or.inl ⟨by rfl, ?_⟩) hS ?_
            · intro w hSw
              go_split_ands
              go_simp
            try simp only [Act.put, List.getElem_toArray, List.getElem_cons_zero, List.getElem_cons_succ, List.setIfInBounds_toArray, List.set_cons_zero, List.set_cons_succ]
            refine wpAnyH_take (i := 10) (v := .pointer (some ⟨bw, 1, none⟩)) rfl (by kernel_rfl) (by kernel_rfl) (by kernel_rfl) (fun _ _ _ h => h) (Or.inl ⟨by rfl, ?_⟩) hS ?_
            · intro w hSw
              go_split_ands
              go_simp
            try simp only [Act.put, List.getElem_toArray, List.getElem_cons_zero, List.getElem_cons_succ, List.setIfInBounds_toArray, List.set_cons_zero, List.set_cons_succ]
            refine wpAnyH_take (i := 11) (v := .slice ua 64 uc) rfl (by kernel_rfl) (by kernel_rfl) (by kernel_rfl) (fun _ _ _ h => h) (Or.inl ⟨by rfl, ?_⟩) hS ?_
            · intro w hSw
              go_split_ands
              go_simp
            try simp only [Act.put, List.getElem_toArray, List.getElem_cons_zero, List.getElem_cons_succ, List.setIfInBounds_toArray, List.set_cons_zero, List.set_cons_succ]
            refine wpAnyH_take (i := 12) (v := .int .i64 64) rfl (by kernel_rfl) (by kernel_rfl) (by kernel_rfl) (fun _ _ _ h => h) (Or.inl ⟨by rfl, ?_⟩) hS ?_
            · intro w hSw
              go_split_ands
              go_simp
            try simp only [Act.put, List.getElem_toArray, List.getElem_cons_zero, List.getElem_cons_succ, List.setIfInBounds_toArray, List.set_cons_zero, List.set_cons_succ]
            refine wpAnyH_ready (rs := [9]) (by kernel_rfl) (by simp) ?_
            refine AllReadyH.cons rfl (fun K hK => ?_) AllReadyH.nil
            try simp only [Act.put, List.getElem_toArray, List.getElem_cons_zero, List.getElem_cons_succ, List.setIfInBounds_toArray, List.set_cons_zero, List.set_cons_succ]
            go_simp
            refine hK.out _ _ ⟨o1, f0, f1⟩ (fun hS => ?_)
            clear hK K
            try simp only [Act.put, List.getElem_toArray, List.getElem_cons_zero, List.getElem_cons_succ, List.setIfInBounds_toArray, List.set_cons_zero, List.set_cons_succ]
            refine wpAnyH_ready (rs := [13]) (by kernel_rfl) (by simp) ?_
            refine AllReadyH.cons rfl (fun K hK => ?_) AllReadyH.nil
            try simp only [Act.put, List.getElem_toArray, List.getElem_cons_zero, List.getElem_cons_succ, List.setIfInBounds_toArray, List.set_cons_zero, List.set_cons_succ]
            go_simp
            have hlen : (pp.2.take 64 ++ (sect (crashFold s.dur (s.wr.take j) ks) q).drop 64).length = 64 := by have h1 := HSL.out; have h2 := HPL.out; simp only [List.length_append, List.length_take, List.length_drop]; omega
            refine (first_any w5.drew _ _ _ pp.2 HO.out HD.out HSL.out HPL.out 64 (by omega)).mono ?_
            rintro e w6 ⟨r, rfl, hr6, hb6⟩
            obtain ⟨ra6, rc6, hsh6⟩ := (hr6 NoB (fun _ h => h.elim)).shape
            rw [hlen] at hsh6
            subst hsh6
            have g0 := cell_below hb6 o1
            have g1 := cell_below hb6 f0
            have g2 := cell_below hb6 f1
            have g3 := cell_below hb6 l0
            have g4 := (World.frozen?_of_block (a := ⟨gc, q, none⟩) (hb6.block gc (World.block_lt_of_cell? w5 _ l0))).trans l1
            refine hK.out _ _ ⟨g0, g1, g2⟩ (fun hS => ?_)
            clear hK K
            try simp only [Act.put, List.getElem_toArray, List.getElem_cons_zero, List.getElem_cons_succ, List.setIfInBounds_toArray, List.set_cons_zero, List.set_cons_succ]
            refine wpAnyH_ready (rs := [14]) (by kernel_rfl) (by simp) ?_
            refine AllReadyH.cons rfl (fun K hK => ?_) AllReadyH.nil
            go_simp
            refine hK.out _ _ ⟨g0, g1, g2⟩ (fun hS => ?_)
            clear hK K
            try simp only [Act.put, List.getElem_toArray, List.getElem_cons_zero, List.getElem_cons_succ, List.setIfInBounds_toArray, List.set_cons_zero, List.set_cons_succ]
            refine wpAnyH_ready (rs := [15]) (by kernel_rfl) (by simp) ?_
            refine AllReadyH.cons rfl (fun K hK => ?_) AllReadyH.nil
            go_simp
            refine hK.out _ _ ⟨cell_other g0 (fun e => NE1 e.symm), cell_other g1 (fun e => NE2 e.symm), cell_other g2 (fun e => NE2 e.symm)⟩ (fun hS => ?_)
            clear hK K
            refine wpAnyH_done (by kernel_rfl) ?_ _
            try simp only [Act.put, List.getElem_toArray, List.getElem_cons_zero, List.getElem_cons_succ, List.setIfInBounds_toArray, List.set_cons_zero, List.set_cons_succ]
            go_wp2
            go_roundw
            case rel =>
              refine ⟨j + 1, by omega, by go_num, ?_⟩
              obtain ⟨J0, J1, J2, J3, -⟩ := INV.out
              have k1 : bx < wr.heap.size := by rw [Array.getElem?_eq_some_iff] at J1; exact J1.1
              have k2 : bx + 1 < wr.heap.size := by rw [Array.getElem?_eq_some_iff] at J2; exact J2.1
              have k3 : bo < wr.heap.size := by rw [Array.getElem?_eq_some_iff] at J3; exact J3.1
              have hz5 := HB5.out.size
              have keep : ∀ k, k < wr.heap.size → k ≠ gc → ∀ u, (w6.setCell ⟨gc, q, none⟩ u).heap[k]? = wr.heap[k]? := fun k hk hne u =>
                (heap_setCell_other w6 ⟨gc, q, none⟩ k u hne).trans ((hb6.block k (Nat.lt_of_lt_of_le hk hz5)).trans (HB5.out.block k hk))
              have hrow := (show RowOf w5.drew M w.heap.size gc cap n _ from HI5.out).below hb6
              have hgc : gc < w5.drew.heap.size := World.block_lt_of_cell? w5 _ l0
              have hM5 : ∀ b : Nat, (b = gc ∨ b = w.heap.size + 1 ∨ M b) → b < w5.drew.heap.size := by
                intro b hb
                rcases hb with hb | hb | hb
                · rw [hb]; exact hgc
                · rw [hb, hbx]; exact Nat.lt_of_lt_of_le k2 hz5
                · exact Nat.lt_of_lt_of_le (HM.out b hb) (Nat.le_trans J0.size hz5)
              have hput := hrow.put q hqn _ _ (hr6 (fun b => b = gc ∨ b = w.heap.size + 1 ∨ M b) hM5)
              have hs2 := HSS.out
              rw [hq, Int.toNat_natCast, hcut] at hs2
              refine ⟨((J0.trans (HB5.out.mono J0.size)).drew.trans (hb6.mono (Nat.le_trans J0.size hz5))).setCell GC.out _, (keep bx k1 (fun e => NE.out.2.1 e.symm) _).trans J1, (keep (bx + 1) k2 (fun e => NE.out.2.2 e.symm) _).trans J2, (keep bo k3 (fun e => NE.out.1 e.symm) _).trans J3, ?_⟩
              rw [hs2]
              exact hput
            case measure => simp [intOf]; omega
      · obtain rfl : j = s.wr.length := by omega
        rw [List.take_length] at I4
        obtain ⟨y0, y1, y2, y3, y4⟩ := box_cells I3
        obtain ⟨t0, t1, t2, t3, t4⟩ := box_cells I2
        have z : ∀ i, wr.frozen? ⟨bx + 1, i, none⟩ = false := by intro i; simp [World.frozen?, I2]
        have I0' := Lib.hid I0; have I2' := Lib.hid I2; have I4' := Lib.hid I4
        clear I0 I1 I2 I3 I4 INV
        go_wp2_with (fail)
        obtain ⟨w9, hw9, P9, Q9, ST9⟩ := put5 (w0 := w) (c0 := .slice (some ⟨gc, 0, none⟩) n cap) (c1 := .slice none 0 0) (c2 := .bool true) (c3 := .int .i64 0) (c4 := .slice none 0 0) I2'.out I0'.out (by omega)
        rw [hw9]
        obtain ⟨z0, z1, z2, z3, z4⟩ := box_cells P9
        refine bodyPost_ret (v := .agg #[.slice (some ⟨gc, 0, none⟩) n cap, .slice none 0 0, .bool true, .int .i64 0, .slice none 0 0]) (by simp [results, Try.results33, go_sem, z0, z1, z2, z3, z4]) rfl ?_
        rw [HR.out]
        refine ⟨_, rfl, ⟨_, _, _, rfl, ?_, Pend.nil _ _, ⟨none, 0, rfl, Nat.le_refl _, by simp [maxLen], fun _ => ⟨rfl, rfl⟩, .inl rfl⟩⟩, Q9⟩
        exact (I4'.out.aside (by rw [hbx]; exact ST9) (by have := NE.out.2.2; omega)).grid (fun hm => by have := HM.out _ hm; have := GC.out; omega)

end Go.Proofs.Ythnolhcknhhipaa
