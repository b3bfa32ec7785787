/-
  DiagramOperations: the walk.
  No condition.
-/
import Derived.Test.YtohmibmakelclaaPkS
namespace Go.Proofs.Ytohmibmakelclaa
set_option linter.unusedVariables false
set_option linter.unusedSimpArgs false
open Go.RowKit

set_option maxRecDepth 100000 in
set_option maxHeartbeats 32000000 in
theorem operationsLaw (w : World) (s0 s1 s2 : Value) (xs ys zs : List Int) (N0 N1 N2 : Nat) (hs0 : SetAt w (.agg #[s0, .int .u8 (N0 : Int)]) xs N0) (hs1 : SetAt w (.agg #[s1, .int .u8 (N1 : Int)]) ys N1) (hs2 : SetAt w (.agg #[s2, .int .u8 (N2 : Int)]) zs N2) (q : Int) (hq0 : 0 ≤ q) (hq1 : q < 18446744073709551616) :
    Calls Try.prog 5 #[.agg #[s0, .int .u8 (N0 : Int), s1, .int .u8 (N1 : Int), s2, .int .u8 (N2 : Int)], .int .u64 q] w fun e w' => e = .returned (.bool true) ∧ Below w.heap.size w w' := by
  obtain ⟨a0, c0, e0⟩ := hs0.shape
  obtain rfl : s0 = .slice a0 xs.length c0 := by simpa using e0
  obtain ⟨a1, c1, e1⟩ := hs1.shape
  obtain rfl : s1 = .slice a1 ys.length c1 := by simpa using e1
  obtain ⟨a2, c2, e2⟩ := hs2.shape
  obtain rfl : s2 = .slice a2 zs.length c2 := by simpa using e2
  obtain ⟨q, rfl⟩ := Int.eq_ofNat_of_zero_le hq0
  have hq2 : q < 18446744073709551616 := by omega
  clear e0 e1 e2 hq0
  obtain ⟨w1, bs, e1, hb1, z1, h1, B1⟩ := laid w #[.slice a0 xs.length c0, .int .u8 (N0 : Int), .slice a1 ys.length c1, .int .u8 (N1 : Int), .slice a2 zs.length c2, .int .u8 (N2 : Int)] 57
  have BW : Hid (Below w.heap.size w w1) := B1
  have KS : Hid (w1.heap[bs]? = some (.cells #[.slice a0 xs.length c0, .int .u8 (N0 : Int), .slice a1 ys.length c1, .int .u8 (N1 : Int), .slice a2 zs.length c2, .int .u8 (N2 : Int)] 57 (0, 0))) := h1
  have HS0 := Lib.hid hs0; have HS1 := Lib.hid hs1; have HS2 := Lib.hid hs2
  have HB0 := Lib.hid hb1
  clear h1 B1 hs0 hs1 hs2
  go_enter Try.func5, Try.ntmps5
  go_wp2_with (fail)
  refine (sanity_any w1).mono ?_
  rintro e w2 ⟨rfl, hb2⟩
  replace KS := Lib.hid (heap_below hb2 KS.out)
  replace BW := Lib.hid (BW.out.trans (hb2.mono BW.out.size))
  clear hb2
  go_wp2_with (fail)
  replace BW := Lib.hid (BW.out.drew)
  obtain ⟨u, hu⟩ : ∃ u, w2.drew = u := ⟨_, rfl⟩
  replace KS : Hid (u.heap[bs]? = some (.cells #[.slice a0 xs.length c0, .int .u8 (N0 : Int), .slice a1 ys.length c1, .int .u8 (N1 : Int), .slice a2 zs.length c2, .int .u8 (N2 : Int)] 57 (0, 0))) := by rw [← hu]; exact KS.out
  rw [hu] at BW
  refine Code.wp_mono (Q := fun e a' w' => e = .normal ∧ ∃ (u : World) (aA : Option Addr) (cA : Nat) (tA : T) (aG : Option Addr) (cG : Nat) (tG : T) (aJ : Option Addr) (cJ : Nat) (tJ : T) (bA : Nat) (bG : Nat) (bJ : Nat), a' = ⟨((.agg #[.slice a0 xs.length c0, .int .u8 (N0 : Int), .slice a1 ys.length c1, .int .u8 (N1 : Int), .slice a2 zs.length c2, .int .u8 (N2 : Int)]) :: .int .u64 (q : Int) :: (.pointer (some ⟨bs, 0, none⟩)) :: undef :: .bool false :: .bool true :: (.pointer (some ⟨bA, 0, none⟩)) :: (.pointer (some ⟨bG, 0, none⟩)) :: (.pointer (some ⟨bJ, 0, none⟩)) :: undef :: undef :: undef :: undef :: undef :: undef :: undef :: undef :: undef :: undef :: undef :: undef :: undef :: undef :: undef :: undef :: .bool true :: (.pointer (some ⟨bs, 0, none⟩)) :: (.agg #[.slice a0 xs.length c0, .int .u8 (N0 : Int)]) :: (.agg #[.slice aA tA.canon.nodes.length cA, .int .i64 tA.canon.root]) :: (.pointer (some ⟨bs, 2, none⟩)) :: (.agg #[.slice a1 ys.length c1, .int .u8 (N1 : Int)]) :: (.agg #[.slice aG tG.canon.nodes.length cG, .int .i64 tG.canon.root]) :: (.pointer (some ⟨bs, 4, none⟩)) :: (.agg #[.slice a2 zs.length c2, .int .u8 (N2 : Int)]) :: (.agg #[.slice aJ tJ.canon.nodes.length cJ, .int .i64 tJ.canon.root]) :: undef :: undef :: undef :: undef :: undef :: undef :: undef :: undef :: undef :: undef :: undef :: undef :: undef :: undef :: undef :: undef :: undef :: undef :: undef :: undef :: undef :: undef :: undef :: undef :: undef :: undef :: undef :: undef :: undef :: undef :: undef :: undef :: undef :: undef :: undef :: undef :: undef :: undef :: undef :: undef :: undef :: undef :: undef :: undef :: undef :: undef :: undef :: undef :: undef :: undef :: undef :: undef :: undef :: undef :: undef :: undef :: undef :: undef :: undef :: undef :: undef :: undef :: undef :: undef :: undef :: undef :: undef :: undef :: undef :: undef :: undef :: undef :: undef :: undef :: undef :: undef :: undef :: undef :: undef :: undef :: undef :: undef :: undef :: undef :: undef :: undef :: undef :: undef :: undef :: undef :: undef :: undef :: undef :: undef :: undef :: undef :: undef :: undef :: undef :: undef :: undef :: undef :: undef :: undef :: undef :: undef :: undef :: undef :: undef :: []).toArray, []⟩ ∧ w' = u ∧ Hid (Below w.heap.size w u) ∧ Hid (u.heap[bs]? = some (.cells #[.slice a0 xs.length c0, .int .u8 (N0 : Int), .slice a1 ys.length c1, .int .u8 (N1 : Int), .slice a2 zs.length c2, .int .u8 (N2 : Int)] 57 (0, 0))) ∧ Hid (In u NoB bA aA cA tA) ∧ Hid (In u NoB bG aG cG tG) ∧ Hid (In u NoB bJ aJ cJ tJ) ∧ Hid (tA.bel (N0 % 7)) ∧ Hid (tG.bel (N1 % 7)) ∧ Hid (tJ.bel (N2 % 7))) ?_ ?_
  rotate_left
  focus
    refine wp_region_held_drew (S := fun w' => w'.cell? ⟨bs, 0, none⟩ = some (.slice a0 xs.length c0) ∧ w'.cell? ⟨bs, 1, none⟩ = some (.int .u8 (N0 : Int)) ∧ w'.cell? ⟨bs, 2, none⟩ = some (.slice a1 ys.length c1) ∧ w'.cell? ⟨bs, 3, none⟩ = some (.int .u8 (N1 : Int)) ∧ w'.cell? ⟨bs, 4, none⟩ = some (.slice a2 zs.length c2) ∧ w'.cell? ⟨bs, 5, none⟩ = some (.int .u8 (N2 : Int))) (by kernel_rfl) (by rw [hu]; exact box6v KS.out) (fun hS => ?_)
    rw [hu] at hS ⊢
    clear hu
    refine wpAnyH_take (i := 0) (v := (.pointer (some ⟨bs, 0, none⟩))) rfl (by kernel_rfl) (by kernel_rfl) (by kernel_rfl) (fun _ _ _ h => nomatch h.1) (Or.inl ⟨by rfl, ?_⟩) hS ?_
    · intro w hSw
      go_split_ands
      go_simp
    try simp only [Act.put, List.getElem_toArray, List.getElem_cons_zero, List.getElem_cons_succ, List.setIfInBounds_toArray, List.set_cons_zero, List.set_cons_succ]
    refine wpAnyH_take (i := 1) (v := (.agg #[.slice a0 xs.length c0, .int .u8 (N0 : Int)])) rfl (by kernel_rfl) (by kernel_rfl) (by kernel_rfl) (fun _ _ _ h => nomatch h.1) (Or.inl ⟨by rfl, ?_⟩) hS ?_
    · intro w hSw
      go_split_ands
      go_simp
    try simp only [Act.put, List.getElem_toArray, List.getElem_cons_zero, List.getElem_cons_succ, List.setIfInBounds_toArray, List.set_cons_zero, List.set_cons_succ]
    refine wpAnyH_take (i := 3) (v := (.pointer (some ⟨bs, 2, none⟩))) rfl (by kernel_rfl) (by kernel_rfl) (by kernel_rfl) (fun _ _ _ h => nomatch h.1) (Or.inl ⟨by rfl, ?_⟩) hS ?_
    · intro w hSw
      go_split_ands
      go_simp
    try simp only [Act.put, List.getElem_toArray, List.getElem_cons_zero, List.getElem_cons_succ, List.setIfInBounds_toArray, List.set_cons_zero, List.set_cons_succ]
    refine wpAnyH_take (i := 4) (v := (.agg #[.slice a1 ys.length c1, .int .u8 (N1 : Int)])) rfl (by kernel_rfl) (by kernel_rfl) (by kernel_rfl) (fun _ _ _ h => nomatch h.1) (Or.inl ⟨by rfl, ?_⟩) hS ?_
    · intro w hSw
      go_split_ands
      go_simp
    try simp only [Act.put, List.getElem_toArray, List.getElem_cons_zero, List.getElem_cons_succ, List.setIfInBounds_toArray, List.set_cons_zero, List.set_cons_succ]
    refine wpAnyH_take (i := 6) (v := (.pointer (some ⟨bs, 4, none⟩))) rfl (by kernel_rfl) (by kernel_rfl) (by kernel_rfl) (fun _ _ _ h => nomatch h.1) (Or.inl ⟨by rfl, ?_⟩) hS ?_
    · intro w hSw
      go_split_ands
      go_simp
    try simp only [Act.put, List.getElem_toArray, List.getElem_cons_zero, List.getElem_cons_succ, List.setIfInBounds_toArray, List.set_cons_zero, List.set_cons_succ]
    refine wpAnyH_take (i := 7) (v := (.agg #[.slice a2 zs.length c2, .int .u8 (N2 : Int)])) rfl (by kernel_rfl) (by kernel_rfl) (by kernel_rfl) (fun _ _ _ h => nomatch h.1) (Or.inl ⟨by rfl, ?_⟩) hS ?_
    · intro w hSw
      go_split_ands
      go_simp
    try simp only [Act.put, List.getElem_toArray, List.getElem_cons_zero, List.getElem_cons_succ, List.setIfInBounds_toArray, List.set_cons_zero, List.set_cons_succ]
    refine with_G (fun G hG => ?_)
    have st3_012 : Hid (∀ (u : World) (aA : Option Addr) (cA : Nat) (tA : T) (aG : Option Addr) (cG : Nat) (tG : T) (aJ : Option Addr) (cJ : Nat) (tJ : T) (bA : Nat) (bG : Nat) (bJ : Nat), Hid (Below w.heap.size w u) → Hid (u.heap[bs]? = some (.cells #[.slice a0 xs.length c0, .int .u8 (N0 : Int), .slice a1 ys.length c1, .int .u8 (N1 : Int), .slice a2 zs.length c2, .int .u8 (N2 : Int)] 57 (0, 0))) → Hid (DgAt u (fun q => q = bA ∨ q = bG ∨ q = bJ) (.agg #[.slice aA tA.canon.nodes.length cA, .int .i64 tA.canon.root]) tA.canon) → Hid (tA.Ok) → Hid (tA.bel (N0 % 7)) → Hid (DgAt u (fun q => q = bA ∨ q = bG ∨ q = bJ) (.agg #[.slice aG tG.canon.nodes.length cG, .int .i64 tG.canon.root]) tG.canon) → Hid (tG.Ok) → Hid (tG.bel (N1 % 7)) → Hid (DgAt u (fun q => q = bA ∨ q = bG ∨ q = bJ) (.agg #[.slice aJ tJ.canon.nodes.length cJ, .int .i64 tJ.canon.root]) tJ.canon) → Hid (tJ.Ok) → Hid (tJ.bel (N2 % 7)) → Hid (u.heap[bA]? = some (.cells dg0 28 (0, 0))) → Hid (bs + 1 ≤ bA) → Hid (u.heap[bG]? = some (.cells dg0 28 (0, 0))) → Hid (bs + 1 ≤ bG) → Hid (u.heap[bJ]? = some (.cells dg0 28 (0, 0))) → Hid (bs + 1 ≤ bJ) → Hid (bA ≠ bG) → Hid (bA ≠ bJ) → Hid (bG ≠ bJ) → G 3 #[true, true, true, true, true, true, true, true, true, true, true, true, false, false, false] ⟨((.agg #[.slice a0 xs.length c0, .int .u8 (N0 : Int), .slice a1 ys.length c1, .int .u8 (N1 : Int), .slice a2 zs.length c2, .int .u8 (N2 : Int)]) :: .int .u64 (q : Int) :: (.pointer (some ⟨bs, 0, none⟩)) :: undef :: .bool false :: .bool true :: (.pointer (some ⟨bA, 0, none⟩)) :: (.pointer (some ⟨bG, 0, none⟩)) :: (.pointer (some ⟨bJ, 0, none⟩)) :: undef :: undef :: undef :: undef :: undef :: undef :: undef :: undef :: undef :: undef :: undef :: undef :: undef :: undef :: undef :: undef :: .bool true :: (.pointer (some ⟨bs, 0, none⟩)) :: (.agg #[.slice a0 xs.length c0, .int .u8 (N0 : Int)]) :: (.agg #[.slice aA tA.canon.nodes.length cA, .int .i64 tA.canon.root]) :: (.pointer (some ⟨bs, 2, none⟩)) :: (.agg #[.slice a1 ys.length c1, .int .u8 (N1 : Int)]) :: (.agg #[.slice aG tG.canon.nodes.length cG, .int .i64 tG.canon.root]) :: (.pointer (some ⟨bs, 4, none⟩)) :: (.agg #[.slice a2 zs.length c2, .int .u8 (N2 : Int)]) :: (.agg #[.slice aJ tJ.canon.nodes.length cJ, .int .i64 tJ.canon.root]) :: undef :: undef :: undef :: undef :: undef :: undef :: undef :: undef :: undef :: undef :: undef :: undef :: undef :: undef :: undef :: undef :: undef :: undef :: undef :: undef :: undef :: undef :: undef :: undef :: undef :: undef :: undef :: undef :: undef :: undef :: undef :: undef :: undef :: undef :: undef :: undef :: undef :: undef :: undef :: undef :: undef :: undef :: undef :: undef :: undef :: undef :: undef :: undef :: undef :: undef :: undef :: undef :: undef :: undef :: undef :: undef :: undef :: undef :: undef :: undef :: undef :: undef :: undef :: undef :: undef :: undef :: undef :: undef :: undef :: undef :: undef :: undef :: undef :: undef :: undef :: undef :: undef :: undef :: undef :: undef :: undef :: undef :: undef :: undef :: undef :: undef :: undef :: undef :: undef :: undef :: undef :: undef :: undef :: undef :: undef :: undef :: undef :: undef :: undef :: undef :: undef :: undef :: undef :: undef :: undef :: undef :: undef :: undef :: undef :: []).toArray, []⟩ u) := by
      intro u aA cA tA aG cG tG aJ cJ tJ bA bG bJ BW KS DA OKA BLA DG OKG BLG DJ OKJ BLJ XA NA XG NG XJ NJ NEAG NEAJ NEGJ
      rw [hG]
      have hS : u.cell? ⟨bs, 0, none⟩ = some (.slice a0 xs.length c0) ∧ u.cell? ⟨bs, 1, none⟩ = some (.int .u8 (N0 : Int)) ∧ u.cell? ⟨bs, 2, none⟩ = some (.slice a1 ys.length c1) ∧ u.cell? ⟨bs, 3, none⟩ = some (.int .u8 (N1 : Int)) ∧ u.cell? ⟨bs, 4, none⟩ = some (.slice a2 zs.length c2) ∧ u.cell? ⟨bs, 5, none⟩ = some (.int .u8 (N2 : Int)) := box6v KS.out
      obtain ⟨s0, s1⟩ := box2 (r := 0) (S := .slice none 0 0) XA.out
      have sf := frozen_box XA.out
      obtain ⟨uA, e8, P8, Q8, S8⟩ := put2 (w0 := w) (c0 := .slice aA tA.canon.nodes.length cA) (c1 := .int .i64 tA.canon.root) XA.out BW.out (by have := HB0.out; have := NA.out; omega)
      replace BW := Lib.hid Q8
      replace KS : Hid (uA.heap[bs]? = some (.cells #[.slice a0 xs.length c0, .int .u8 (N0 : Int), .slice a1 ys.length c1, .int .u8 (N1 : Int), .slice a2 zs.length c2, .int .u8 (N2 : Int)] 57 (0, 0))) := (S8.block _ (heap_lt KS.out) (by have := NA.out; omega)).trans KS.out
      have XA' := Lib.hid P8
      replace DA := Lib.hid (DA.out.step (S8.wide (fun q hq => by rw [hq]; exact .inl rfl)))
      replace XG := Lib.hid ((S8.block _ (heap_lt XG.out) (Ne.symm NEAG.out)).trans XG.out)
      replace DG := Lib.hid (DG.out.step (S8.wide (fun q hq => by rw [hq]; exact .inl rfl)))
      replace XJ := Lib.hid ((S8.block _ (heap_lt XJ.out) (Ne.symm NEAJ.out)).trans XJ.out)
      replace DJ := Lib.hid (DJ.out.step (S8.wide (fun q hq => by rw [hq]; exact .inl rfl)))
      clear P8 Q8 S8
      refine wpAnyH_ready (rs := [12]) (by kernel_rfl) (by simp) ?_
      refine AllReadyH.cons rfl (fun K hK => ?_) AllReadyH.nil
      try simp only [Act.put, List.getElem_toArray, List.getElem_cons_zero, List.getElem_cons_succ, List.setIfInBounds_toArray, List.set_cons_zero, List.set_cons_succ]
      go_simp
      refine hK.out _ _ (box6v KS.out) (fun hS => ?_)
      clear hK K s0 s1 sf e8
      try simp only [Act.put, List.getElem_toArray, List.getElem_cons_zero, List.getElem_cons_succ, List.setIfInBounds_toArray, List.set_cons_zero, List.set_cons_succ]
      obtain ⟨s0, s1⟩ := box2 (r := 0) (S := .slice none 0 0) XG.out
      have sf := frozen_box XG.out
      obtain ⟨uG, e8, P8, Q8, S8⟩ := put2 (w0 := w) (c0 := .slice aG tG.canon.nodes.length cG) (c1 := .int .i64 tG.canon.root) XG.out BW.out (by have := HB0.out; have := NG.out; omega)
      replace BW := Lib.hid Q8
      replace KS : Hid (uG.heap[bs]? = some (.cells #[.slice a0 xs.length c0, .int .u8 (N0 : Int), .slice a1 ys.length c1, .int .u8 (N1 : Int), .slice a2 zs.length c2, .int .u8 (N2 : Int)] 57 (0, 0))) := (S8.block _ (heap_lt KS.out) (by have := NG.out; omega)).trans KS.out
      replace XA' := Lib.hid ((S8.block _ (heap_lt XA'.out) NEAG.out).trans XA'.out)
      replace DA := Lib.hid (DA.out.step (S8.wide (fun q hq => by rw [hq]; exact .inr (.inl rfl))))
      have XG' := Lib.hid P8
      replace DG := Lib.hid (DG.out.step (S8.wide (fun q hq => by rw [hq]; exact .inr (.inl rfl))))
      replace XJ := Lib.hid ((S8.block _ (heap_lt XJ.out) (Ne.symm NEGJ.out)).trans XJ.out)
      replace DJ := Lib.hid (DJ.out.step (S8.wide (fun q hq => by rw [hq]; exact .inr (.inl rfl))))
      clear P8 Q8 S8
      refine wpAnyH_ready (rs := [13]) (by kernel_rfl) (by simp) ?_
      refine AllReadyH.cons rfl (fun K hK => ?_) AllReadyH.nil
      try simp only [Act.put, List.getElem_toArray, List.getElem_cons_zero, List.getElem_cons_succ, List.setIfInBounds_toArray, List.set_cons_zero, List.set_cons_succ]
      go_simp
      refine hK.out _ _ (box6v KS.out) (fun hS => ?_)
      clear hK K s0 s1 sf e8
      try simp only [Act.put, List.getElem_toArray, List.getElem_cons_zero, List.getElem_cons_succ, List.setIfInBounds_toArray, List.set_cons_zero, List.set_cons_succ]
      obtain ⟨s0, s1⟩ := box2 (r := 0) (S := .slice none 0 0) XJ.out
      have sf := frozen_box XJ.out
      obtain ⟨uJ, e8, P8, Q8, S8⟩ := put2 (w0 := w) (c0 := .slice aJ tJ.canon.nodes.length cJ) (c1 := .int .i64 tJ.canon.root) XJ.out BW.out (by have := HB0.out; have := NJ.out; omega)
      replace BW := Lib.hid Q8
      replace KS : Hid (uJ.heap[bs]? = some (.cells #[.slice a0 xs.length c0, .int .u8 (N0 : Int), .slice a1 ys.length c1, .int .u8 (N1 : Int), .slice a2 zs.length c2, .int .u8 (N2 : Int)] 57 (0, 0))) := (S8.block _ (heap_lt KS.out) (by have := NJ.out; omega)).trans KS.out
      replace XA' := Lib.hid ((S8.block _ (heap_lt XA'.out) NEAJ.out).trans XA'.out)
      replace DA := Lib.hid (DA.out.step (S8.wide (fun q hq => by rw [hq]; exact .inr (.inr rfl))))
      replace XG' := Lib.hid ((S8.block _ (heap_lt XG'.out) NEGJ.out).trans XG'.out)
      replace DG := Lib.hid (DG.out.step (S8.wide (fun q hq => by rw [hq]; exact .inr (.inr rfl))))
      have XJ' := Lib.hid P8
      replace DJ := Lib.hid (DJ.out.step (S8.wide (fun q hq => by rw [hq]; exact .inr (.inr rfl))))
      clear P8 Q8 S8
      refine wpAnyH_ready (rs := [14]) (by kernel_rfl) (by simp) ?_
      refine AllReadyH.cons rfl (fun K hK => ?_) AllReadyH.nil
      try simp only [Act.put, List.getElem_toArray, List.getElem_cons_zero, List.getElem_cons_succ, List.setIfInBounds_toArray, List.set_cons_zero, List.set_cons_succ]
      go_simp
      refine hK.out _ _ (box6v KS.out) (fun hS => ?_)
      clear hK K s0 s1 sf e8
      try simp only [Act.put, List.getElem_toArray, List.getElem_cons_zero, List.getElem_cons_succ, List.setIfInBounds_toArray, List.set_cons_zero, List.set_cons_succ]
      refine wpAnyH_done (by kernel_rfl) ?_ _
      try simp only [Act.put, List.getElem_toArray, List.getElem_cons_zero, List.getElem_cons_succ, List.setIfInBounds_toArray, List.set_cons_zero, List.set_cons_succ]
      refine ⟨by first | trivial | rfl, uJ, aA, cA, tA, aG, cG, tG, aJ, cJ, tJ, bA, bG, bJ, rfl, rfl, BW, KS, ⟨XA'.out, DA.out.wide (fun q hq => hq.elim), OKA.out, Nat.le_trans (OKA.out.small BLA.out (by omega)) (by decide)⟩, ⟨XG'.out, DG.out.wide (fun q hq => hq.elim), OKG.out, Nat.le_trans (OKG.out.small BLG.out (by omega)) (by decide)⟩, ⟨XJ'.out, DJ.out.wide (fun q hq => hq.elim), OKJ.out, Nat.le_trans (OKJ.out.small BLJ.out (by omega)) (by decide)⟩, BLA, BLG, BLJ⟩
    have st3_01 : Hid (∀ (u : World) (aA : Option Addr) (cA : Nat) (tA : T) (aG : Option Addr) (cG : Nat) (tG : T) (aJ : Option Addr) (cJ : Nat) (tJ : T) (bA : Nat) (bG : Nat), Hid (Below w.heap.size w u) → Hid (u.heap[bs]? = some (.cells #[.slice a0 xs.length c0, .int .u8 (N0 : Int), .slice a1 ys.length c1, .int .u8 (N1 : Int), .slice a2 zs.length c2, .int .u8 (N2 : Int)] 57 (0, 0))) → Hid (DgAt u (fun q => q = bA ∨ q = bG) (.agg #[.slice aA tA.canon.nodes.length cA, .int .i64 tA.canon.root]) tA.canon) → Hid (tA.Ok) → Hid (tA.bel (N0 % 7)) → Hid (DgAt u (fun q => q = bA ∨ q = bG) (.agg #[.slice aG tG.canon.nodes.length cG, .int .i64 tG.canon.root]) tG.canon) → Hid (tG.Ok) → Hid (tG.bel (N1 % 7)) → Hid (DgAt u (fun q => q = bA ∨ q = bG) (.agg #[.slice aJ tJ.canon.nodes.length cJ, .int .i64 tJ.canon.root]) tJ.canon) → Hid (tJ.Ok) → Hid (tJ.bel (N2 % 7)) → Hid (u.heap[bA]? = some (.cells dg0 28 (0, 0))) → Hid (bs + 1 ≤ bA) → Hid (u.heap[bG]? = some (.cells dg0 28 (0, 0))) → Hid (bs + 1 ≤ bG) → Hid (bA ≠ bG) → G 4 #[true, true, true, true, true, true, true, true, true, true, true, false, false, false, false] ⟨((.agg #[.slice a0 xs.length c0, .int .u8 (N0 : Int), .slice a1 ys.length c1, .int .u8 (N1 : Int), .slice a2 zs.length c2, .int .u8 (N2 : Int)]) :: .int .u64 (q : Int) :: (.pointer (some ⟨bs, 0, none⟩)) :: undef :: .bool false :: .bool true :: (.pointer (some ⟨bA, 0, none⟩)) :: (.pointer (some ⟨bG, 0, none⟩)) :: undef :: undef :: undef :: undef :: undef :: undef :: undef :: undef :: undef :: undef :: undef :: undef :: undef :: undef :: undef :: undef :: undef :: .bool true :: (.pointer (some ⟨bs, 0, none⟩)) :: (.agg #[.slice a0 xs.length c0, .int .u8 (N0 : Int)]) :: (.agg #[.slice aA tA.canon.nodes.length cA, .int .i64 tA.canon.root]) :: (.pointer (some ⟨bs, 2, none⟩)) :: (.agg #[.slice a1 ys.length c1, .int .u8 (N1 : Int)]) :: (.agg #[.slice aG tG.canon.nodes.length cG, .int .i64 tG.canon.root]) :: (.pointer (some ⟨bs, 4, none⟩)) :: (.agg #[.slice a2 zs.length c2, .int .u8 (N2 : Int)]) :: (.agg #[.slice aJ tJ.canon.nodes.length cJ, .int .i64 tJ.canon.root]) :: undef :: undef :: undef :: undef :: undef :: undef :: undef :: undef :: undef :: undef :: undef :: undef :: undef :: undef :: undef :: undef :: undef :: undef :: undef :: undef :: undef :: undef :: undef :: undef :: undef :: undef :: undef :: undef :: undef :: undef :: undef :: undef :: undef :: undef :: undef :: undef :: undef :: undef :: undef :: undef :: undef :: undef :: undef :: undef :: undef :: undef :: undef :: undef :: undef :: undef :: undef :: undef :: undef :: undef :: undef :: undef :: undef :: undef :: undef :: undef :: undef :: undef :: undef :: undef :: undef :: undef :: undef :: undef :: undef :: undef :: undef :: undef :: undef :: undef :: undef :: undef :: undef :: undef :: undef :: undef :: undef :: undef :: undef :: undef :: undef :: undef :: undef :: undef :: undef :: undef :: undef :: undef :: undef :: undef :: undef :: undef :: undef :: undef :: undef :: undef :: undef :: undef :: undef :: undef :: undef :: undef :: undef :: undef :: undef :: []).toArray, []⟩ u) := by
      intro u aA cA tA aG cG tG aJ cJ tJ bA bG BW KS DA OKA BLA DG OKG BLG DJ OKJ BLJ XA NA XG NG NEAG
      rw [hG]
      have hS : u.cell? ⟨bs, 0, none⟩ = some (.slice a0 xs.length c0) ∧ u.cell? ⟨bs, 1, none⟩ = some (.int .u8 (N0 : Int)) ∧ u.cell? ⟨bs, 2, none⟩ = some (.slice a1 ys.length c1) ∧ u.cell? ⟨bs, 3, none⟩ = some (.int .u8 (N1 : Int)) ∧ u.cell? ⟨bs, 4, none⟩ = some (.slice a2 zs.length c2) ∧ u.cell? ⟨bs, 5, none⟩ = some (.int .u8 (N2 : Int)) := box6v KS.out
      refine wpAnyH_ready (rs := [11]) (by kernel_rfl) (by simp) ?_
      refine AllReadyH.cons rfl (fun K hK => ?_) (AllReadyH.nil)
      · try simp only [Act.put, List.getElem_toArray, List.getElem_cons_zero, List.getElem_cons_succ, List.setIfInBounds_toArray, List.set_cons_zero, List.set_cons_succ]
        obtain ⟨u1, bJ, eX, hBX, zX, hX, BX⟩ := laid u dg0 28
        have NJ : Hid (bs + 1 ≤ bJ) := by show _ ≤ _; have := heap_lt KS.out; omega
        have NEAJ : Hid (bA ≠ bJ) := by have h := heap_lt XA.out; show _ ≠ _; omega
        have NEGJ : Hid (bG ≠ bJ) := by have h := heap_lt XG.out; show _ ≠ _; omega
        replace DA : Hid (DgAt u1 (fun q => q = bA ∨ q = bG ∨ q = bJ) (.agg #[.slice aA tA.canon.nodes.length cA, .int .i64 tA.canon.root]) tA.canon) := DA.out.newer BX (fun q hq => by rcases hq with rfl | rfl | rfl <;> first | exact .inr (by omega) | (left; simp) )
        replace DG : Hid (DgAt u1 (fun q => q = bA ∨ q = bG ∨ q = bJ) (.agg #[.slice aG tG.canon.nodes.length cG, .int .i64 tG.canon.root]) tG.canon) := DG.out.newer BX (fun q hq => by rcases hq with rfl | rfl | rfl <;> first | exact .inr (by omega) | (left; simp) )
        replace DJ : Hid (DgAt u1 (fun q => q = bA ∨ q = bG ∨ q = bJ) (.agg #[.slice aJ tJ.canon.nodes.length cJ, .int .i64 tJ.canon.root]) tJ.canon) := DJ.out.newer BX (fun q hq => by rcases hq with rfl | rfl | rfl <;> first | exact .inr (by omega) | (left; simp) )
        replace XA := Lib.hid (heap_below BX XA.out)
        replace XG := Lib.hid (heap_below BX XG.out)
        replace KS : Hid (u1.heap[bs]? = some (.cells #[.slice a0 xs.length c0, .int .u8 (N0 : Int), .slice a1 ys.length c1, .int .u8 (N1 : Int), .slice a2 zs.length c2, .int .u8 (N2 : Int)] 57 (0, 0))) := heap_below BX KS.out
        have XJ := Lib.hid hX
        replace BW := Lib.hid (BW.out.trans (BX.mono BW.out.size))
        go_simp
        clear hX BX eX hBX zX
        refine hK.out _ _ (box6v KS.out) (fun hS => ?_)
        clear hK K
        try simp only [Act.put, List.getElem_toArray, List.getElem_cons_zero, List.getElem_cons_succ, List.setIfInBounds_toArray, List.set_cons_zero, List.set_cons_succ]
        rw [← hG]
        exact st3_012.out u1 aA cA tA aG cG tG aJ cJ tJ bA bG bJ BW KS DA OKA BLA DG OKG BLG DJ OKJ BLJ XA NA XG NG XJ NJ NEAG NEAJ NEGJ
    have st3_02 : Hid (∀ (u : World) (aA : Option Addr) (cA : Nat) (tA : T) (aG : Option Addr) (cG : Nat) (tG : T) (aJ : Option Addr) (cJ : Nat) (tJ : T) (bA : Nat) (bJ : Nat), Hid (Below w.heap.size w u) → Hid (u.heap[bs]? = some (.cells #[.slice a0 xs.length c0, .int .u8 (N0 : Int), .slice a1 ys.length c1, .int .u8 (N1 : Int), .slice a2 zs.length c2, .int .u8 (N2 : Int)] 57 (0, 0))) → Hid (DgAt u (fun q => q = bA ∨ q = bJ) (.agg #[.slice aA tA.canon.nodes.length cA, .int .i64 tA.canon.root]) tA.canon) → Hid (tA.Ok) → Hid (tA.bel (N0 % 7)) → Hid (DgAt u (fun q => q = bA ∨ q = bJ) (.agg #[.slice aG tG.canon.nodes.length cG, .int .i64 tG.canon.root]) tG.canon) → Hid (tG.Ok) → Hid (tG.bel (N1 % 7)) → Hid (DgAt u (fun q => q = bA ∨ q = bJ) (.agg #[.slice aJ tJ.canon.nodes.length cJ, .int .i64 tJ.canon.root]) tJ.canon) → Hid (tJ.Ok) → Hid (tJ.bel (N2 % 7)) → Hid (u.heap[bA]? = some (.cells dg0 28 (0, 0))) → Hid (bs + 1 ≤ bA) → Hid (u.heap[bJ]? = some (.cells dg0 28 (0, 0))) → Hid (bs + 1 ≤ bJ) → Hid (bA ≠ bJ) → G 4 #[true, true, true, true, true, true, true, true, true, true, false, true, false, false, false] ⟨((.agg #[.slice a0 xs.length c0, .int .u8 (N0 : Int), .slice a1 ys.length c1, .int .u8 (N1 : Int), .slice a2 zs.length c2, .int .u8 (N2 : Int)]) :: .int .u64 (q : Int) :: (.pointer (some ⟨bs, 0, none⟩)) :: undef :: .bool false :: .bool true :: (.pointer (some ⟨bA, 0, none⟩)) :: undef :: (.pointer (some ⟨bJ, 0, none⟩)) :: undef :: undef :: undef :: undef :: undef :: undef :: undef :: undef :: undef :: undef :: undef :: undef :: undef :: undef :: undef :: undef :: .bool true :: (.pointer (some ⟨bs, 0, none⟩)) :: (.agg #[.slice a0 xs.length c0, .int .u8 (N0 : Int)]) :: (.agg #[.slice aA tA.canon.nodes.length cA, .int .i64 tA.canon.root]) :: (.pointer (some ⟨bs, 2, none⟩)) :: (.agg #[.slice a1 ys.length c1, .int .u8 (N1 : Int)]) :: (.agg #[.slice aG tG.canon.nodes.length cG, .int .i64 tG.canon.root]) :: (.pointer (some ⟨bs, 4, none⟩)) :: (.agg #[.slice a2 zs.length c2, .int .u8 (N2 : Int)]) :: (.agg #[.slice aJ tJ.canon.nodes.length cJ, .int .i64 tJ.canon.root]) :: undef :: undef :: undef :: undef :: undef :: undef :: undef :: undef :: undef :: undef :: undef :: undef :: undef :: undef :: undef :: undef :: undef :: undef :: undef :: undef :: undef :: undef :: undef :: undef :: undef :: undef :: undef :: undef :: undef :: undef :: undef :: undef :: undef :: undef :: undef :: undef :: undef :: undef :: undef :: undef :: undef :: undef :: undef :: undef :: undef :: undef :: undef :: undef :: undef :: undef :: undef :: undef :: undef :: undef :: undef :: undef :: undef :: undef :: undef :: undef :: undef :: undef :: undef :: undef :: undef :: undef :: undef :: undef :: undef :: undef :: undef :: undef :: undef :: undef :: undef :: undef :: undef :: undef :: undef :: undef :: undef :: undef :: undef :: undef :: undef :: undef :: undef :: undef :: undef :: undef :: undef :: undef :: undef :: undef :: undef :: undef :: undef :: undef :: undef :: undef :: undef :: undef :: undef :: undef :: undef :: undef :: undef :: undef :: undef :: []).toArray, []⟩ u) := by
      intro u aA cA tA aG cG tG aJ cJ tJ bA bJ BW KS DA OKA BLA DG OKG BLG DJ OKJ BLJ XA NA XJ NJ NEAJ
      rw [hG]
      have hS : u.cell? ⟨bs, 0, none⟩ = some (.slice a0 xs.length c0) ∧ u.cell? ⟨bs, 1, none⟩ = some (.int .u8 (N0 : Int)) ∧ u.cell? ⟨bs, 2, none⟩ = some (.slice a1 ys.length c1) ∧ u.cell? ⟨bs, 3, none⟩ = some (.int .u8 (N1 : Int)) ∧ u.cell? ⟨bs, 4, none⟩ = some (.slice a2 zs.length c2) ∧ u.cell? ⟨bs, 5, none⟩ = some (.int .u8 (N2 : Int)) := box6v KS.out
      refine wpAnyH_ready (rs := [10]) (by kernel_rfl) (by simp) ?_
      refine AllReadyH.cons rfl (fun K hK => ?_) (AllReadyH.nil)
      · try simp only [Act.put, List.getElem_toArray, List.getElem_cons_zero, List.getElem_cons_succ, List.setIfInBounds_toArray, List.set_cons_zero, List.set_cons_succ]
        obtain ⟨u1, bG, eX, hBX, zX, hX, BX⟩ := laid u dg0 28
        have NG : Hid (bs + 1 ≤ bG) := by show _ ≤ _; have := heap_lt KS.out; omega
        have NEAG : Hid (bA ≠ bG) := by have h := heap_lt XA.out; show _ ≠ _; omega
        have NEGJ : Hid (bG ≠ bJ) := by have h := heap_lt XJ.out; show _ ≠ _; omega
        replace DA : Hid (DgAt u1 (fun q => q = bA ∨ q = bG ∨ q = bJ) (.agg #[.slice aA tA.canon.nodes.length cA, .int .i64 tA.canon.root]) tA.canon) := DA.out.newer BX (fun q hq => by rcases hq with rfl | rfl | rfl <;> first | exact .inr (by omega) | (left; simp) )
        replace DG : Hid (DgAt u1 (fun q => q = bA ∨ q = bG ∨ q = bJ) (.agg #[.slice aG tG.canon.nodes.length cG, .int .i64 tG.canon.root]) tG.canon) := DG.out.newer BX (fun q hq => by rcases hq with rfl | rfl | rfl <;> first | exact .inr (by omega) | (left; simp) )
        replace DJ : Hid (DgAt u1 (fun q => q = bA ∨ q = bG ∨ q = bJ) (.agg #[.slice aJ tJ.canon.nodes.length cJ, .int .i64 tJ.canon.root]) tJ.canon) := DJ.out.newer BX (fun q hq => by rcases hq with rfl | rfl | rfl <;> first | exact .inr (by omega) | (left; simp) )
        replace XA := Lib.hid (heap_below BX XA.out)
        replace XJ := Lib.hid (heap_below BX XJ.out)
        replace KS : Hid (u1.heap[bs]? = some (.cells #[.slice a0 xs.length c0, .int .u8 (N0 : Int), .slice a1 ys.length c1, .int .u8 (N1 : Int), .slice a2 zs.length c2, .int .u8 (N2 : Int)] 57 (0, 0))) := heap_below BX KS.out
        have XG := Lib.hid hX
        replace BW := Lib.hid (BW.out.trans (BX.mono BW.out.size))
        go_simp
        clear hX BX eX hBX zX
        refine hK.out _ _ (box6v KS.out) (fun hS => ?_)
        clear hK K
        try simp only [Act.put, List.getElem_toArray, List.getElem_cons_zero, List.getElem_cons_succ, List.setIfInBounds_toArray, List.set_cons_zero, List.set_cons_succ]
        rw [← hG]
        exact st3_012.out u1 aA cA tA aG cG tG aJ cJ tJ bA bG bJ BW KS DA OKA BLA DG OKG BLG DJ OKJ BLJ XA NA XG NG XJ NJ NEAG NEAJ NEGJ
    have st3_12 : Hid (∀ (u : World) (aA : Option Addr) (cA : Nat) (tA : T) (aG : Option Addr) (cG : Nat) (tG : T) (aJ : Option Addr) (cJ : Nat) (tJ : T) (bG : Nat) (bJ : Nat), Hid (Below w.heap.size w u) → Hid (u.heap[bs]? = some (.cells #[.slice a0 xs.length c0, .int .u8 (N0 : Int), .slice a1 ys.length c1, .int .u8 (N1 : Int), .slice a2 zs.length c2, .int .u8 (N2 : Int)] 57 (0, 0))) → Hid (DgAt u (fun q => q = bG ∨ q = bJ) (.agg #[.slice aA tA.canon.nodes.length cA, .int .i64 tA.canon.root]) tA.canon) → Hid (tA.Ok) → Hid (tA.bel (N0 % 7)) → Hid (DgAt u (fun q => q = bG ∨ q = bJ) (.agg #[.slice aG tG.canon.nodes.length cG, .int .i64 tG.canon.root]) tG.canon) → Hid (tG.Ok) → Hid (tG.bel (N1 % 7)) → Hid (DgAt u (fun q => q = bG ∨ q = bJ) (.agg #[.slice aJ tJ.canon.nodes.length cJ, .int .i64 tJ.canon.root]) tJ.canon) → Hid (tJ.Ok) → Hid (tJ.bel (N2 % 7)) → Hid (u.heap[bG]? = some (.cells dg0 28 (0, 0))) → Hid (bs + 1 ≤ bG) → Hid (u.heap[bJ]? = some (.cells dg0 28 (0, 0))) → Hid (bs + 1 ≤ bJ) → Hid (bG ≠ bJ) → G 4 #[true, true, true, true, true, true, true, true, true, false, true, true, false, false, false] ⟨((.agg #[.slice a0 xs.length c0, .int .u8 (N0 : Int), .slice a1 ys.length c1, .int .u8 (N1 : Int), .slice a2 zs.length c2, .int .u8 (N2 : Int)]) :: .int .u64 (q : Int) :: (.pointer (some ⟨bs, 0, none⟩)) :: undef :: .bool false :: .bool true :: undef :: (.pointer (some ⟨bG, 0, none⟩)) :: (.pointer (some ⟨bJ, 0, none⟩)) :: undef :: undef :: undef :: undef :: undef :: undef :: undef :: undef :: undef :: undef :: undef :: undef :: undef :: undef :: undef :: undef :: .bool true :: (.pointer (some ⟨bs, 0, none⟩)) :: (.agg #[.slice a0 xs.length c0, .int .u8 (N0 : Int)]) :: (.agg #[.slice aA tA.canon.nodes.length cA, .int .i64 tA.canon.root]) :: (.pointer (some ⟨bs, 2, none⟩)) :: (.agg #[.slice a1 ys.length c1, .int .u8 (N1 : Int)]) :: (.agg #[.slice aG tG.canon.nodes.length cG, .int .i64 tG.canon.root]) :: (.pointer (some ⟨bs, 4, none⟩)) :: (.agg #[.slice a2 zs.length c2, .int .u8 (N2 : Int)]) :: (.agg #[.slice aJ tJ.canon.nodes.length cJ, .int .i64 tJ.canon.root]) :: undef :: undef :: undef :: undef :: undef :: undef :: undef :: undef :: undef :: undef :: undef :: undef :: undef :: undef :: undef :: undef :: undef :: undef :: undef :: undef :: undef :: undef :: undef :: undef :: undef :: undef :: undef :: undef :: undef :: undef :: undef :: undef :: undef :: undef :: undef :: undef :: undef :: undef :: undef :: undef :: undef :: undef :: undef :: undef :: undef :: undef :: undef :: undef :: undef :: undef :: undef :: undef :: undef :: undef :: undef :: undef :: undef :: undef :: undef :: undef :: undef :: undef :: undef :: undef :: undef :: undef :: undef :: undef :: undef :: undef :: undef :: undef :: undef :: undef :: undef :: undef :: undef :: undef :: undef :: undef :: undef :: undef :: undef :: undef :: undef :: undef :: undef :: undef :: undef :: undef :: undef :: undef :: undef :: undef :: undef :: undef :: undef :: undef :: undef :: undef :: undef :: undef :: undef :: undef :: undef :: undef :: undef :: undef :: undef :: []).toArray, []⟩ u) := by
      intro u aA cA tA aG cG tG aJ cJ tJ bG bJ BW KS DA OKA BLA DG OKG BLG DJ OKJ BLJ XG NG XJ NJ NEGJ
      rw [hG]
      have hS : u.cell? ⟨bs, 0, none⟩ = some (.slice a0 xs.length c0) ∧ u.cell? ⟨bs, 1, none⟩ = some (.int .u8 (N0 : Int)) ∧ u.cell? ⟨bs, 2, none⟩ = some (.slice a1 ys.length c1) ∧ u.cell? ⟨bs, 3, none⟩ = some (.int .u8 (N1 : Int)) ∧ u.cell? ⟨bs, 4, none⟩ = some (.slice a2 zs.length c2) ∧ u.cell? ⟨bs, 5, none⟩ = some (.int .u8 (N2 : Int)) := box6v KS.out
      refine wpAnyH_ready (rs := [9]) (by kernel_rfl) (by simp) ?_
      refine AllReadyH.cons rfl (fun K hK => ?_) (AllReadyH.nil)
      · try simp only [Act.put, List.getElem_toArray, List.getElem_cons_zero, List.getElem_cons_succ, List.setIfInBounds_toArray, List.set_cons_zero, List.set_cons_succ]
        obtain ⟨u1, bA, eX, hBX, zX, hX, BX⟩ := laid u dg0 28
        have NA : Hid (bs + 1 ≤ bA) := by show _ ≤ _; have := heap_lt KS.out; omega
        have NEAG : Hid (bA ≠ bG) := by have h := heap_lt XG.out; show _ ≠ _; omega
        have NEAJ : Hid (bA ≠ bJ) := by have h := heap_lt XJ.out; show _ ≠ _; omega
        replace DA : Hid (DgAt u1 (fun q => q = bA ∨ q = bG ∨ q = bJ) (.agg #[.slice aA tA.canon.nodes.length cA, .int .i64 tA.canon.root]) tA.canon) := DA.out.newer BX (fun q hq => by rcases hq with rfl | rfl | rfl <;> first | exact .inr (by omega) | (left; simp) )
        replace DG : Hid (DgAt u1 (fun q => q = bA ∨ q = bG ∨ q = bJ) (.agg #[.slice aG tG.canon.nodes.length cG, .int .i64 tG.canon.root]) tG.canon) := DG.out.newer BX (fun q hq => by rcases hq with rfl | rfl | rfl <;> first | exact .inr (by omega) | (left; simp) )
        replace DJ : Hid (DgAt u1 (fun q => q = bA ∨ q = bG ∨ q = bJ) (.agg #[.slice aJ tJ.canon.nodes.length cJ, .int .i64 tJ.canon.root]) tJ.canon) := DJ.out.newer BX (fun q hq => by rcases hq with rfl | rfl | rfl <;> first | exact .inr (by omega) | (left; simp) )
        replace XG := Lib.hid (heap_below BX XG.out)
        replace XJ := Lib.hid (heap_below BX XJ.out)
        replace KS : Hid (u1.heap[bs]? = some (.cells #[.slice a0 xs.length c0, .int .u8 (N0 : Int), .slice a1 ys.length c1, .int .u8 (N1 : Int), .slice a2 zs.length c2, .int .u8 (N2 : Int)] 57 (0, 0))) := heap_below BX KS.out
        have XA := Lib.hid hX
        replace BW := Lib.hid (BW.out.trans (BX.mono BW.out.size))
        go_simp
        clear hX BX eX hBX zX
        refine hK.out _ _ (box6v KS.out) (fun hS => ?_)
        clear hK K
        try simp only [Act.put, List.getElem_toArray, List.getElem_cons_zero, List.getElem_cons_succ, List.setIfInBounds_toArray, List.set_cons_zero, List.set_cons_succ]
        rw [← hG]
        exact st3_012.out u1 aA cA tA aG cG tG aJ cJ tJ bA bG bJ BW KS DA OKA BLA DG OKG BLG DJ OKJ BLJ XA NA XG NG XJ NJ NEAG NEAJ NEGJ
    have st3_0 : Hid (∀ (u : World) (aA : Option Addr) (cA : Nat) (tA : T) (aG : Option Addr) (cG : Nat) (tG : T) (aJ : Option Addr) (cJ : Nat) (tJ : T) (bA : Nat), Hid (Below w.heap.size w u) → Hid (u.heap[bs]? = some (.cells #[.slice a0 xs.length c0, .int .u8 (N0 : Int), .slice a1 ys.length c1, .int .u8 (N1 : Int), .slice a2 zs.length c2, .int .u8 (N2 : Int)] 57 (0, 0))) → Hid (DgAt u (fun q => q = bA) (.agg #[.slice aA tA.canon.nodes.length cA, .int .i64 tA.canon.root]) tA.canon) → Hid (tA.Ok) → Hid (tA.bel (N0 % 7)) → Hid (DgAt u (fun q => q = bA) (.agg #[.slice aG tG.canon.nodes.length cG, .int .i64 tG.canon.root]) tG.canon) → Hid (tG.Ok) → Hid (tG.bel (N1 % 7)) → Hid (DgAt u (fun q => q = bA) (.agg #[.slice aJ tJ.canon.nodes.length cJ, .int .i64 tJ.canon.root]) tJ.canon) → Hid (tJ.Ok) → Hid (tJ.bel (N2 % 7)) → Hid (u.heap[bA]? = some (.cells dg0 28 (0, 0))) → Hid (bs + 1 ≤ bA) → G 5 #[true, true, true, true, true, true, true, true, true, true, false, false, false, false, false] ⟨((.agg #[.slice a0 xs.length c0, .int .u8 (N0 : Int), .slice a1 ys.length c1, .int .u8 (N1 : Int), .slice a2 zs.length c2, .int .u8 (N2 : Int)]) :: .int .u64 (q : Int) :: (.pointer (some ⟨bs, 0, none⟩)) :: undef :: .bool false :: .bool true :: (.pointer (some ⟨bA, 0, none⟩)) :: undef :: undef :: undef :: undef :: undef :: undef :: undef :: undef :: undef :: undef :: undef :: undef :: undef :: undef :: undef :: undef :: undef :: undef :: .bool true :: (.pointer (some ⟨bs, 0, none⟩)) :: (.agg #[.slice a0 xs.length c0, .int .u8 (N0 : Int)]) :: (.agg #[.slice aA tA.canon.nodes.length cA, .int .i64 tA.canon.root]) :: (.pointer (some ⟨bs, 2, none⟩)) :: (.agg #[.slice a1 ys.length c1, .int .u8 (N1 : Int)]) :: (.agg #[.slice aG tG.canon.nodes.length cG, .int .i64 tG.canon.root]) :: (.pointer (some ⟨bs, 4, none⟩)) :: (.agg #[.slice a2 zs.length c2, .int .u8 (N2 : Int)]) :: (.agg #[.slice aJ tJ.canon.nodes.length cJ, .int .i64 tJ.canon.root]) :: undef :: undef :: undef :: undef :: undef :: undef :: undef :: undef :: undef :: undef :: undef :: undef :: undef :: undef :: undef :: undef :: undef :: undef :: undef :: undef :: undef :: undef :: undef :: undef :: undef :: undef :: undef :: undef :: undef :: undef :: undef :: undef :: undef :: undef :: undef :: undef :: undef :: undef :: undef :: undef :: undef :: undef :: undef :: undef :: undef :: undef :: undef :: undef :: undef :: undef :: undef :: undef :: undef :: undef :: undef :: undef :: undef :: undef :: undef :: undef :: undef :: undef :: undef :: undef :: undef :: undef :: undef :: undef :: undef :: undef :: undef :: undef :: undef :: undef :: undef :: undef :: undef :: undef :: undef :: undef :: undef :: undef :: undef :: undef :: undef :: undef :: undef :: undef :: undef :: undef :: undef :: undef :: undef :: undef :: undef :: undef :: undef :: undef :: undef :: undef :: undef :: undef :: undef :: undef :: undef :: undef :: undef :: undef :: undef :: []).toArray, []⟩ u) := by
      intro u aA cA tA aG cG tG aJ cJ tJ bA BW KS DA OKA BLA DG OKG BLG DJ OKJ BLJ XA NA
      rw [hG]
      have hS : u.cell? ⟨bs, 0, none⟩ = some (.slice a0 xs.length c0) ∧ u.cell? ⟨bs, 1, none⟩ = some (.int .u8 (N0 : Int)) ∧ u.cell? ⟨bs, 2, none⟩ = some (.slice a1 ys.length c1) ∧ u.cell? ⟨bs, 3, none⟩ = some (.int .u8 (N1 : Int)) ∧ u.cell? ⟨bs, 4, none⟩ = some (.slice a2 zs.length c2) ∧ u.cell? ⟨bs, 5, none⟩ = some (.int .u8 (N2 : Int)) := box6v KS.out
      refine wpAnyH_ready (rs := [10, 11]) (by kernel_rfl) (by simp) ?_
      refine AllReadyH.cons rfl (fun K hK => ?_) (AllReadyH.cons rfl (fun K hK => ?_) (AllReadyH.nil))
      · try simp only [Act.put, List.getElem_toArray, List.getElem_cons_zero, List.getElem_cons_succ, List.setIfInBounds_toArray, List.set_cons_zero, List.set_cons_succ]
        obtain ⟨u1, bG, eX, hBX, zX, hX, BX⟩ := laid u dg0 28
        have NG : Hid (bs + 1 ≤ bG) := by show _ ≤ _; have := heap_lt KS.out; omega
        have NEAG : Hid (bA ≠ bG) := by have h := heap_lt XA.out; show _ ≠ _; omega
        replace DA : Hid (DgAt u1 (fun q => q = bA ∨ q = bG) (.agg #[.slice aA tA.canon.nodes.length cA, .int .i64 tA.canon.root]) tA.canon) := DA.out.newer BX (fun q hq => by rcases hq with rfl | rfl <;> first | exact .inr (by omega) | (left; simp) )
        replace DG : Hid (DgAt u1 (fun q => q = bA ∨ q = bG) (.agg #[.slice aG tG.canon.nodes.length cG, .int .i64 tG.canon.root]) tG.canon) := DG.out.newer BX (fun q hq => by rcases hq with rfl | rfl <;> first | exact .inr (by omega) | (left; simp) )
        replace DJ : Hid (DgAt u1 (fun q => q = bA ∨ q = bG) (.agg #[.slice aJ tJ.canon.nodes.length cJ, .int .i64 tJ.canon.root]) tJ.canon) := DJ.out.newer BX (fun q hq => by rcases hq with rfl | rfl <;> first | exact .inr (by omega) | (left; simp) )
        replace XA := Lib.hid (heap_below BX XA.out)
        replace KS : Hid (u1.heap[bs]? = some (.cells #[.slice a0 xs.length c0, .int .u8 (N0 : Int), .slice a1 ys.length c1, .int .u8 (N1 : Int), .slice a2 zs.length c2, .int .u8 (N2 : Int)] 57 (0, 0))) := heap_below BX KS.out
        have XG := Lib.hid hX
        replace BW := Lib.hid (BW.out.trans (BX.mono BW.out.size))
        go_simp
        clear hX BX eX hBX zX
        refine hK.out _ _ (box6v KS.out) (fun hS => ?_)
        clear hK K
        try simp only [Act.put, List.getElem_toArray, List.getElem_cons_zero, List.getElem_cons_succ, List.setIfInBounds_toArray, List.set_cons_zero, List.set_cons_succ]
        rw [← hG]
        exact st3_01.out u1 aA cA tA aG cG tG aJ cJ tJ bA bG BW KS DA OKA BLA DG OKG BLG DJ OKJ BLJ XA NA XG NG NEAG
      · try simp only [Act.put, List.getElem_toArray, List.getElem_cons_zero, List.getElem_cons_succ, List.setIfInBounds_toArray, List.set_cons_zero, List.set_cons_succ]
        obtain ⟨u1, bJ, eX, hBX, zX, hX, BX⟩ := laid u dg0 28
        have NJ : Hid (bs + 1 ≤ bJ) := by show _ ≤ _; have := heap_lt KS.out; omega
        have NEAJ : Hid (bA ≠ bJ) := by have h := heap_lt XA.out; show _ ≠ _; omega
        replace DA : Hid (DgAt u1 (fun q => q = bA ∨ q = bJ) (.agg #[.slice aA tA.canon.nodes.length cA, .int .i64 tA.canon.root]) tA.canon) := DA.out.newer BX (fun q hq => by rcases hq with rfl | rfl <;> first | exact .inr (by omega) | (left; simp) )
        replace DG : Hid (DgAt u1 (fun q => q = bA ∨ q = bJ) (.agg #[.slice aG tG.canon.nodes.length cG, .int .i64 tG.canon.root]) tG.canon) := DG.out.newer BX (fun q hq => by rcases hq with rfl | rfl <;> first | exact .inr (by omega) | (left; simp) )
        replace DJ : Hid (DgAt u1 (fun q => q = bA ∨ q = bJ) (.agg #[.slice aJ tJ.canon.nodes.length cJ, .int .i64 tJ.canon.root]) tJ.canon) := DJ.out.newer BX (fun q hq => by rcases hq with rfl | rfl <;> first | exact .inr (by omega) | (left; simp) )
        replace XA := Lib.hid (heap_below BX XA.out)
        replace KS : Hid (u1.heap[bs]? = some (.cells #[.slice a0 xs.length c0, .int .u8 (N0 : Int), .slice a1 ys.length c1, .int .u8 (N1 : Int), .slice a2 zs.length c2, .int .u8 (N2 : Int)] 57 (0, 0))) := heap_below BX KS.out
        have XJ := Lib.hid hX
        replace BW := Lib.hid (BW.out.trans (BX.mono BW.out.size))
        go_simp
        clear hX BX eX hBX zX
        refine hK.out _ _ (box6v KS.out) (fun hS => ?_)
        clear hK K
        try simp only [Act.put, List.getElem_toArray, List.getElem_cons_zero, List.getElem_cons_succ, List.setIfInBounds_toArray, List.set_cons_zero, List.set_cons_succ]
        rw [← hG]
        exact st3_02.out u1 aA cA tA aG cG tG aJ cJ tJ bA bJ BW KS DA OKA BLA DG OKG BLG DJ OKJ BLJ XA NA XJ NJ NEAJ
    have st3_1 : Hid (∀ (u : World) (aA : Option Addr) (cA : Nat) (tA : T) (aG : Option Addr) (cG : Nat) (tG : T) (aJ : Option Addr) (cJ : Nat) (tJ : T) (bG : Nat), Hid (Below w.heap.size w u) → Hid (u.heap[bs]? = some (.cells #[.slice a0 xs.length c0, .int .u8 (N0 : Int), .slice a1 ys.length c1, .int .u8 (N1 : Int), .slice a2 zs.length c2, .int .u8 (N2 : Int)] 57 (0, 0))) → Hid (DgAt u (fun q => q = bG) (.agg #[.slice aA tA.canon.nodes.length cA, .int .i64 tA.canon.root]) tA.canon) → Hid (tA.Ok) → Hid (tA.bel (N0 % 7)) → Hid (DgAt u (fun q => q = bG) (.agg #[.slice aG tG.canon.nodes.length cG, .int .i64 tG.canon.root]) tG.canon) → Hid (tG.Ok) → Hid (tG.bel (N1 % 7)) → Hid (DgAt u (fun q => q = bG) (.agg #[.slice aJ tJ.canon.nodes.length cJ, .int .i64 tJ.canon.root]) tJ.canon) → Hid (tJ.Ok) → Hid (tJ.bel (N2 % 7)) → Hid (u.heap[bG]? = some (.cells dg0 28 (0, 0))) → Hid (bs + 1 ≤ bG) → G 5 #[true, true, true, true, true, true, true, true, true, false, true, false, false, false, false] ⟨((.agg #[.slice a0 xs.length c0, .int .u8 (N0 : Int), .slice a1 ys.length c1, .int .u8 (N1 : Int), .slice a2 zs.length c2, .int .u8 (N2 : Int)]) :: .int .u64 (q : Int) :: (.pointer (some ⟨bs, 0, none⟩)) :: undef :: .bool false :: .bool true :: undef :: (.pointer (some ⟨bG, 0, none⟩)) :: undef :: undef :: undef :: undef :: undef :: undef :: undef :: undef :: undef :: undef :: undef :: undef :: undef :: undef :: undef :: undef :: undef :: .bool true :: (.pointer (some ⟨bs, 0, none⟩)) :: (.agg #[.slice a0 xs.length c0, .int .u8 (N0 : Int)]) :: (.agg #[.slice aA tA.canon.nodes.length cA, .int .i64 tA.canon.root]) :: (.pointer (some ⟨bs, 2, none⟩)) :: (.agg #[.slice a1 ys.length c1, .int .u8 (N1 : Int)]) :: (.agg #[.slice aG tG.canon.nodes.length cG, .int .i64 tG.canon.root]) :: (.pointer (some ⟨bs, 4, none⟩)) :: (.agg #[.slice a2 zs.length c2, .int .u8 (N2 : Int)]) :: (.agg #[.slice aJ tJ.canon.nodes.length cJ, .int .i64 tJ.canon.root]) :: undef :: undef :: undef :: undef :: undef :: undef :: undef :: undef :: undef :: undef :: undef :: undef :: undef :: undef :: undef :: undef :: undef :: undef :: undef :: undef :: undef :: undef :: undef :: undef :: undef :: undef :: undef :: undef :: undef :: undef :: undef :: undef :: undef :: undef :: undef :: undef :: undef :: undef :: undef :: undef :: undef :: undef :: undef :: undef :: undef :: undef :: undef :: undef :: undef :: undef :: undef :: undef :: undef :: undef :: undef :: undef :: undef :: undef :: undef :: undef :: undef :: undef :: undef :: undef :: undef :: undef :: undef :: undef :: undef :: undef :: undef :: undef :: undef :: undef :: undef :: undef :: undef :: undef :: undef :: undef :: undef :: undef :: undef :: undef :: undef :: undef :: undef :: undef :: undef :: undef :: undef :: undef :: undef :: undef :: undef :: undef :: undef :: undef :: undef :: undef :: undef :: undef :: undef :: undef :: undef :: undef :: undef :: undef :: undef :: []).toArray, []⟩ u) := by
      intro u aA cA tA aG cG tG aJ cJ tJ bG BW KS DA OKA BLA DG OKG BLG DJ OKJ BLJ XG NG
      rw [hG]
      have hS : u.cell? ⟨bs, 0, none⟩ = some (.slice a0 xs.length c0) ∧ u.cell? ⟨bs, 1, none⟩ = some (.int .u8 (N0 : Int)) ∧ u.cell? ⟨bs, 2, none⟩ = some (.slice a1 ys.length c1) ∧ u.cell? ⟨bs, 3, none⟩ = some (.int .u8 (N1 : Int)) ∧ u.cell? ⟨bs, 4, none⟩ = some (.slice a2 zs.length c2) ∧ u.cell? ⟨bs, 5, none⟩ = some (.int .u8 (N2 : Int)) := box6v KS.out
      refine wpAnyH_ready (rs := [9, 11]) (by kernel_rfl) (by simp) ?_
      refine AllReadyH.cons rfl (fun K hK => ?_) (AllReadyH.cons rfl (fun K hK => ?_) (AllReadyH.nil))
      · try simp only [Act.put, List.getElem_toArray, List.getElem_cons_zero, List.getElem_cons_succ, List.setIfInBounds_toArray, List.set_cons_zero, List.set_cons_succ]
        obtain ⟨u1, bA, eX, hBX, zX, hX, BX⟩ := laid u dg0 28
        have NA : Hid (bs + 1 ≤ bA) := by show _ ≤ _; have := heap_lt KS.out; omega
        have NEAG : Hid (bA ≠ bG) := by have h := heap_lt XG.out; show _ ≠ _; omega
        replace DA : Hid (DgAt u1 (fun q => q = bA ∨ q = bG) (.agg #[.slice aA tA.canon.nodes.length cA, .int .i64 tA.canon.root]) tA.canon) := DA.out.newer BX (fun q hq => by rcases hq with rfl | rfl <;> first | exact .inr (by omega) | (left; simp) )
        replace DG : Hid (DgAt u1 (fun q => q = bA ∨ q = bG) (.agg #[.slice aG tG.canon.nodes.length cG, .int .i64 tG.canon.root]) tG.canon) := DG.out.newer BX (fun q hq => by rcases hq with rfl | rfl <;> first | exact .inr (by omega) | (left; simp) )
        replace DJ : Hid (DgAt u1 (fun q => q = bA ∨ q = bG) (.agg #[.slice aJ tJ.canon.nodes.length cJ, .int .i64 tJ.canon.root]) tJ.canon) := DJ.out.newer BX (fun q hq => by rcases hq with rfl | rfl <;> first | exact .inr (by omega) | (left; simp) )
        replace XG := Lib.hid (heap_below BX XG.out)
        replace KS : Hid (u1.heap[bs]? = some (.cells #[.slice a0 xs.length c0, .int .u8 (N0 : Int), .slice a1 ys.length c1, .int .u8 (N1 : Int), .slice a2 zs.length c2, .int .u8 (N2 : Int)] 57 (0, 0))) := heap_below BX KS.out
        have XA := Lib.hid hX
        replace BW := Lib.hid (BW.out.trans (BX.mono BW.out.size))
        go_simp
        clear hX BX eX hBX zX
        refine hK.out _ _ (box6v KS.out) (fun hS => ?_)
        clear hK K
        try simp only [Act.put, List.getElem_toArray, List.getElem_cons_zero, List.getElem_cons_succ, List.setIfInBounds_toArray, List.set_cons_zero, List.set_cons_succ]
        rw [← hG]
        exact st3_01.out u1 aA cA tA aG cG tG aJ cJ tJ bA bG BW KS DA OKA BLA DG OKG BLG DJ OKJ BLJ XA NA XG NG NEAG
      · try simp only [Act.put, List.getElem_toArray, List.getElem_cons_zero, List.getElem_cons_succ, List.setIfInBounds_toArray, List.set_cons_zero, List.set_cons_succ]
        obtain ⟨u1, bJ, eX, hBX, zX, hX, BX⟩ := laid u dg0 28
        have NJ : Hid (bs + 1 ≤ bJ) := by show _ ≤ _; have := heap_lt KS.out; omega
        have NEGJ : Hid (bG ≠ bJ) := by have h := heap_lt XG.out; show _ ≠ _; omega
        replace DA : Hid (DgAt u1 (fun q => q = bG ∨ q = bJ) (.agg #[.slice aA tA.canon.nodes.length cA, .int .i64 tA.canon.root]) tA.canon) := DA.out.newer BX (fun q hq => by rcases hq with rfl | rfl <;> first | exact .inr (by omega) | (left; simp) )
        replace DG : Hid (DgAt u1 (fun q => q = bG ∨ q = bJ) (.agg #[.slice aG tG.canon.nodes.length cG, .int .i64 tG.canon.root]) tG.canon) := DG.out.newer BX (fun q hq => by rcases hq with rfl | rfl <;> first | exact .inr (by omega) | (left; simp) )
        replace DJ : Hid (DgAt u1 (fun q => q = bG ∨ q = bJ) (.agg #[.slice aJ tJ.canon.nodes.length cJ, .int .i64 tJ.canon.root]) tJ.canon) := DJ.out.newer BX (fun q hq => by rcases hq with rfl | rfl <;> first | exact .inr (by omega) | (left; simp) )
        replace XG := Lib.hid (heap_below BX XG.out)
        replace KS : Hid (u1.heap[bs]? = some (.cells #[.slice a0 xs.length c0, .int .u8 (N0 : Int), .slice a1 ys.length c1, .int .u8 (N1 : Int), .slice a2 zs.length c2, .int .u8 (N2 : Int)] 57 (0, 0))) := heap_below BX KS.out
        have XJ := Lib.hid hX
        replace BW := Lib.hid (BW.out.trans (BX.mono BW.out.size))
        go_simp
        clear hX BX eX hBX zX
        refine hK.out _ _ (box6v KS.out) (fun hS => ?_)
        clear hK K
        try simp only [Act.put, List.getElem_toArray, List.getElem_cons_zero, List.getElem_cons_succ, List.setIfInBounds_toArray, List.set_cons_zero, List.set_cons_succ]
        rw [← hG]
        exact st3_12.out u1 aA cA tA aG cG tG aJ cJ tJ bG bJ BW KS DA OKA BLA DG OKG BLG DJ OKJ BLJ XG NG XJ NJ NEGJ
    have st3_2 : Hid (∀ (u : World) (aA : Option Addr) (cA : Nat) (tA : T) (aG : Option Addr) (cG : Nat) (tG : T) (aJ : Option Addr) (cJ : Nat) (tJ : T) (bJ : Nat), Hid (Below w.heap.size w u) → Hid (u.heap[bs]? = some (.cells #[.slice a0 xs.length c0, .int .u8 (N0 : Int), .slice a1 ys.length c1, .int .u8 (N1 : Int), .slice a2 zs.length c2, .int .u8 (N2 : Int)] 57 (0, 0))) → Hid (DgAt u (fun q => q = bJ) (.agg #[.slice aA tA.canon.nodes.length cA, .int .i64 tA.canon.root]) tA.canon) → Hid (tA.Ok) → Hid (tA.bel (N0 % 7)) → Hid (DgAt u (fun q => q = bJ) (.agg #[.slice aG tG.canon.nodes.length cG, .int .i64 tG.canon.root]) tG.canon) → Hid (tG.Ok) → Hid (tG.bel (N1 % 7)) → Hid (DgAt u (fun q => q = bJ) (.agg #[.slice aJ tJ.canon.nodes.length cJ, .int .i64 tJ.canon.root]) tJ.canon) → Hid (tJ.Ok) → Hid (tJ.bel (N2 % 7)) → Hid (u.heap[bJ]? = some (.cells dg0 28 (0, 0))) → Hid (bs + 1 ≤ bJ) → G 5 #[true, true, true, true, true, true, true, true, true, false, false, true, false, false, false] ⟨((.agg #[.slice a0 xs.length c0, .int .u8 (N0 : Int), .slice a1 ys.length c1, .int .u8 (N1 : Int), .slice a2 zs.length c2, .int .u8 (N2 : Int)]) :: .int .u64 (q : Int) :: (.pointer (some ⟨bs, 0, none⟩)) :: undef :: .bool false :: .bool true :: undef :: undef :: (.pointer (some ⟨bJ, 0, none⟩)) :: undef :: undef :: undef :: undef :: undef :: undef :: undef :: undef :: undef :: undef :: undef :: undef :: undef :: undef :: undef :: undef :: .bool true :: (.pointer (some ⟨bs, 0, none⟩)) :: (.agg #[.slice a0 xs.length c0, .int .u8 (N0 : Int)]) :: (.agg #[.slice aA tA.canon.nodes.length cA, .int .i64 tA.canon.root]) :: (.pointer (some ⟨bs, 2, none⟩)) :: (.agg #[.slice a1 ys.length c1, .int .u8 (N1 : Int)]) :: (.agg #[.slice aG tG.canon.nodes.length cG, .int .i64 tG.canon.root]) :: (.pointer (some ⟨bs, 4, none⟩)) :: (.agg #[.slice a2 zs.length c2, .int .u8 (N2 : Int)]) :: (.agg #[.slice aJ tJ.canon.nodes.length cJ, .int .i64 tJ.canon.root]) :: undef :: undef :: undef :: undef :: undef :: undef :: undef :: undef :: undef :: undef :: undef :: undef :: undef :: undef :: undef :: undef :: undef :: undef :: undef :: undef :: undef :: undef :: undef :: undef :: undef :: undef :: undef :: undef :: undef :: undef :: undef :: undef :: undef :: undef :: undef :: undef :: undef :: undef :: undef :: undef :: undef :: undef :: undef :: undef :: undef :: undef :: undef :: undef :: undef :: undef :: undef :: undef :: undef :: undef :: undef :: undef :: undef :: undef :: undef :: undef :: undef :: undef :: undef :: undef :: undef :: undef :: undef :: undef :: undef :: undef :: undef :: undef :: undef :: undef :: undef :: undef :: undef :: undef :: undef :: undef :: undef :: undef :: undef :: undef :: undef :: undef :: undef :: undef :: undef :: undef :: undef :: undef :: undef :: undef :: undef :: undef :: undef :: undef :: undef :: undef :: undef :: undef :: undef :: undef :: undef :: undef :: undef :: undef :: undef :: []).toArray, []⟩ u) := by
      intro u aA cA tA aG cG tG aJ cJ tJ bJ BW KS DA OKA BLA DG OKG BLG DJ OKJ BLJ XJ NJ
      rw [hG]
      have hS : u.cell? ⟨bs, 0, none⟩ = some (.slice a0 xs.length c0) ∧ u.cell? ⟨bs, 1, none⟩ = some (.int .u8 (N0 : Int)) ∧ u.cell? ⟨bs, 2, none⟩ = some (.slice a1 ys.length c1) ∧ u.cell? ⟨bs, 3, none⟩ = some (.int .u8 (N1 : Int)) ∧ u.cell? ⟨bs, 4, none⟩ = some (.slice a2 zs.length c2) ∧ u.cell? ⟨bs, 5, none⟩ = some (.int .u8 (N2 : Int)) := box6v KS.out
      refine wpAnyH_ready (rs := [9, 10]) (by kernel_rfl) (by simp) ?_
      refine AllReadyH.cons rfl (fun K hK => ?_) (AllReadyH.cons rfl (fun K hK => ?_) (AllReadyH.nil))
      · try simp only [Act.put, List.getElem_toArray, List.getElem_cons_zero, List.getElem_cons_succ, List.setIfInBounds_toArray, List.set_cons_zero, List.set_cons_succ]
        obtain ⟨u1, bA, eX, hBX, zX, hX, BX⟩ := laid u dg0 28
        have NA : Hid (bs + 1 ≤ bA) := by show _ ≤ _; have := heap_lt KS.out; omega
        have NEAJ : Hid (bA ≠ bJ) := by have h := heap_lt XJ.out; show _ ≠ _; omega
        replace DA : Hid (DgAt u1 (fun q => q = bA ∨ q = bJ) (.agg #[.slice aA tA.canon.nodes.length cA, .int .i64 tA.canon.root]) tA.canon) := DA.out.newer BX (fun q hq => by rcases hq with rfl | rfl <;> first | exact .inr (by omega) | (left; simp) )
        replace DG : Hid (DgAt u1 (fun q => q = bA ∨ q = bJ) (.agg #[.slice aG tG.canon.nodes.length cG, .int .i64 tG.canon.root]) tG.canon) := DG.out.newer BX (fun q hq => by rcases hq with rfl | rfl <;> first | exact .inr (by omega) | (left; simp) )
        replace DJ : Hid (DgAt u1 (fun q => q = bA ∨ q = bJ) (.agg #[.slice aJ tJ.canon.nodes.length cJ, .int .i64 tJ.canon.root]) tJ.canon) := DJ.out.newer BX (fun q hq => by rcases hq with rfl | rfl <;> first | exact .inr (by omega) | (left; simp) )
        replace XJ := Lib.hid (heap_below BX XJ.out)
        replace KS : Hid (u1.heap[bs]? = some (.cells #[.slice a0 xs.length c0, .int .u8 (N0 : Int), .slice a1 ys.length c1, .int .u8 (N1 : Int), .slice a2 zs.length c2, .int .u8 (N2 : Int)] 57 (0, 0))) := heap_below BX KS.out
        have XA := Lib.hid hX
        replace BW := Lib.hid (BW.out.trans (BX.mono BW.out.size))
        go_simp
        clear hX BX eX hBX zX
        refine hK.out _ _ (box6v KS.out) (fun hS => ?_)
        clear hK K
        try simp only [Act.put, List.getElem_toArray, List.getElem_cons_zero, List.getElem_cons_succ, List.setIfInBounds_toArray, List.set_cons_zero, List.set_cons_succ]
        rw [← hG]
        exact st3_02.out u1 aA cA tA aG cG tG aJ cJ tJ bA bJ BW KS DA OKA BLA DG OKG BLG DJ OKJ BLJ XA NA XJ NJ NEAJ
      · try simp only [Act.put, List.getElem_toArray, List.getElem_cons_zero, List.getElem_cons_succ, List.setIfInBounds_toArray, List.set_cons_zero, List.set_cons_succ]
        obtain ⟨u1, bG, eX, hBX, zX, hX, BX⟩ := laid u dg0 28
        have NG : Hid (bs + 1 ≤ bG) := by show _ ≤ _; have := heap_lt KS.out; omega
        have NEGJ : Hid (bG ≠ bJ) := by have h := heap_lt XJ.out; show _ ≠ _; omega
        replace DA : Hid (DgAt u1 (fun q => q = bG ∨ q = bJ) (.agg #[.slice aA tA.canon.nodes.length cA, .int .i64 tA.canon.root]) tA.canon) := DA.out.newer BX (fun q hq => by rcases hq with rfl | rfl <;> first | exact .inr (by omega) | (left; simp) )
        replace DG : Hid (DgAt u1 (fun q => q = bG ∨ q = bJ) (.agg #[.slice aG tG.canon.nodes.length cG, .int .i64 tG.canon.root]) tG.canon) := DG.out.newer BX (fun q hq => by rcases hq with rfl | rfl <;> first | exact .inr (by omega) | (left; simp) )
        replace DJ : Hid (DgAt u1 (fun q => q = bG ∨ q = bJ) (.agg #[.slice aJ tJ.canon.nodes.length cJ, .int .i64 tJ.canon.root]) tJ.canon) := DJ.out.newer BX (fun q hq => by rcases hq with rfl | rfl <;> first | exact .inr (by omega) | (left; simp) )
        replace XJ := Lib.hid (heap_below BX XJ.out)
        replace KS : Hid (u1.heap[bs]? = some (.cells #[.slice a0 xs.length c0, .int .u8 (N0 : Int), .slice a1 ys.length c1, .int .u8 (N1 : Int), .slice a2 zs.length c2, .int .u8 (N2 : Int)] 57 (0, 0))) := heap_below BX KS.out
        have XG := Lib.hid hX
        replace BW := Lib.hid (BW.out.trans (BX.mono BW.out.size))
        go_simp
        clear hX BX eX hBX zX
        refine hK.out _ _ (box6v KS.out) (fun hS => ?_)
        clear hK K
        try simp only [Act.put, List.getElem_toArray, List.getElem_cons_zero, List.getElem_cons_succ, List.setIfInBounds_toArray, List.set_cons_zero, List.set_cons_succ]
        rw [← hG]
        exact st3_12.out u1 aA cA tA aG cG tG aJ cJ tJ bG bJ BW KS DA OKA BLA DG OKG BLG DJ OKJ BLJ XG NG XJ NJ NEGJ
    have st3_ : Hid (∀ (u : World) (aA : Option Addr) (cA : Nat) (tA : T) (aG : Option Addr) (cG : Nat) (tG : T) (aJ : Option Addr) (cJ : Nat) (tJ : T), Hid (Below w.heap.size w u) → Hid (u.heap[bs]? = some (.cells #[.slice a0 xs.length c0, .int .u8 (N0 : Int), .slice a1 ys.length c1, .int .u8 (N1 : Int), .slice a2 zs.length c2, .int .u8 (N2 : Int)] 57 (0, 0))) → Hid (DgAt u NoB (.agg #[.slice aA tA.canon.nodes.length cA, .int .i64 tA.canon.root]) tA.canon) → Hid (tA.Ok) → Hid (tA.bel (N0 % 7)) → Hid (DgAt u NoB (.agg #[.slice aG tG.canon.nodes.length cG, .int .i64 tG.canon.root]) tG.canon) → Hid (tG.Ok) → Hid (tG.bel (N1 % 7)) → Hid (DgAt u NoB (.agg #[.slice aJ tJ.canon.nodes.length cJ, .int .i64 tJ.canon.root]) tJ.canon) → Hid (tJ.Ok) → Hid (tJ.bel (N2 % 7)) → G 6 #[true, true, true, true, true, true, true, true, true, false, false, false, false, false, false] ⟨((.agg #[.slice a0 xs.length c0, .int .u8 (N0 : Int), .slice a1 ys.length c1, .int .u8 (N1 : Int), .slice a2 zs.length c2, .int .u8 (N2 : Int)]) :: .int .u64 (q : Int) :: (.pointer (some ⟨bs, 0, none⟩)) :: undef :: .bool false :: .bool true :: undef :: undef :: undef :: undef :: undef :: undef :: undef :: undef :: undef :: undef :: undef :: undef :: undef :: undef :: undef :: undef :: undef :: undef :: undef :: .bool true :: (.pointer (some ⟨bs, 0, none⟩)) :: (.agg #[.slice a0 xs.length c0, .int .u8 (N0 : Int)]) :: (.agg #[.slice aA tA.canon.nodes.length cA, .int .i64 tA.canon.root]) :: (.pointer (some ⟨bs, 2, none⟩)) :: (.agg #[.slice a1 ys.length c1, .int .u8 (N1 : Int)]) :: (.agg #[.slice aG tG.canon.nodes.length cG, .int .i64 tG.canon.root]) :: (.pointer (some ⟨bs, 4, none⟩)) :: (.agg #[.slice a2 zs.length c2, .int .u8 (N2 : Int)]) :: (.agg #[.slice aJ tJ.canon.nodes.length cJ, .int .i64 tJ.canon.root]) :: undef :: undef :: undef :: undef :: undef :: undef :: undef :: undef :: undef :: undef :: undef :: undef :: undef :: undef :: undef :: undef :: undef :: undef :: undef :: undef :: undef :: undef :: undef :: undef :: undef :: undef :: undef :: undef :: undef :: undef :: undef :: undef :: undef :: undef :: undef :: undef :: undef :: undef :: undef :: undef :: undef :: undef :: undef :: undef :: undef :: undef :: undef :: undef :: undef :: undef :: undef :: undef :: undef :: undef :: undef :: undef :: undef :: undef :: undef :: undef :: undef :: undef :: undef :: undef :: undef :: undef :: undef :: undef :: undef :: undef :: undef :: undef :: undef :: undef :: undef :: undef :: undef :: undef :: undef :: undef :: undef :: undef :: undef :: undef :: undef :: undef :: undef :: undef :: undef :: undef :: undef :: undef :: undef :: undef :: undef :: undef :: undef :: undef :: undef :: undef :: undef :: undef :: undef :: undef :: undef :: undef :: undef :: undef :: undef :: []).toArray, []⟩ u) := by
      intro u aA cA tA aG cG tG aJ cJ tJ BW KS DA OKA BLA DG OKG BLG DJ OKJ BLJ
      rw [hG]
      have hS : u.cell? ⟨bs, 0, none⟩ = some (.slice a0 xs.length c0) ∧ u.cell? ⟨bs, 1, none⟩ = some (.int .u8 (N0 : Int)) ∧ u.cell? ⟨bs, 2, none⟩ = some (.slice a1 ys.length c1) ∧ u.cell? ⟨bs, 3, none⟩ = some (.int .u8 (N1 : Int)) ∧ u.cell? ⟨bs, 4, none⟩ = some (.slice a2 zs.length c2) ∧ u.cell? ⟨bs, 5, none⟩ = some (.int .u8 (N2 : Int)) := box6v KS.out
      refine wpAnyH_ready (rs := [9, 10, 11]) (by kernel_rfl) (by simp) ?_
      refine AllReadyH.cons rfl (fun K hK => ?_) (AllReadyH.cons rfl (fun K hK => ?_) (AllReadyH.cons rfl (fun K hK => ?_) (AllReadyH.nil)))
      · try simp only [Act.put, List.getElem_toArray, List.getElem_cons_zero, List.getElem_cons_succ, List.setIfInBounds_toArray, List.set_cons_zero, List.set_cons_succ]
        obtain ⟨u1, bA, eX, hBX, zX, hX, BX⟩ := laid u dg0 28
        have NA : Hid (bs + 1 ≤ bA) := by show _ ≤ _; have := heap_lt KS.out; omega
        replace DA : Hid (DgAt u1 (fun q => q = bA) (.agg #[.slice aA tA.canon.nodes.length cA, .int .i64 tA.canon.root]) tA.canon) := DA.out.newer BX (fun q hq => .inr (by rw [hq]; omega))
        replace DG : Hid (DgAt u1 (fun q => q = bA) (.agg #[.slice aG tG.canon.nodes.length cG, .int .i64 tG.canon.root]) tG.canon) := DG.out.newer BX (fun q hq => .inr (by rw [hq]; omega))
        replace DJ : Hid (DgAt u1 (fun q => q = bA) (.agg #[.slice aJ tJ.canon.nodes.length cJ, .int .i64 tJ.canon.root]) tJ.canon) := DJ.out.newer BX (fun q hq => .inr (by rw [hq]; omega))
        replace KS : Hid (u1.heap[bs]? = some (.cells #[.slice a0 xs.length c0, .int .u8 (N0 : Int), .slice a1 ys.length c1, .int .u8 (N1 : Int), .slice a2 zs.length c2, .int .u8 (N2 : Int)] 57 (0, 0))) := heap_below BX KS.out
        have XA := Lib.hid hX
        replace BW := Lib.hid (BW.out.trans (BX.mono BW.out.size))
        go_simp
        clear hX BX eX hBX zX
        refine hK.out _ _ (box6v KS.out) (fun hS => ?_)
        clear hK K
        try simp only [Act.put, List.getElem_toArray, List.getElem_cons_zero, List.getElem_cons_succ, List.setIfInBounds_toArray, List.set_cons_zero, List.set_cons_succ]
        rw [← hG]
        exact st3_0.out u1 aA cA tA aG cG tG aJ cJ tJ bA BW KS DA OKA BLA DG OKG BLG DJ OKJ BLJ XA NA
      · try simp only [Act.put, List.getElem_toArray, List.getElem_cons_zero, List.getElem_cons_succ, List.setIfInBounds_toArray, List.set_cons_zero, List.set_cons_succ]
        obtain ⟨u1, bG, eX, hBX, zX, hX, BX⟩ := laid u dg0 28
        have NG : Hid (bs + 1 ≤ bG) := by show _ ≤ _; have := heap_lt KS.out; omega
        replace DA : Hid (DgAt u1 (fun q => q = bG) (.agg #[.slice aA tA.canon.nodes.length cA, .int .i64 tA.canon.root]) tA.canon) := DA.out.newer BX (fun q hq => .inr (by rw [hq]; omega))
        replace DG : Hid (DgAt u1 (fun q => q = bG) (.agg #[.slice aG tG.canon.nodes.length cG, .int .i64 tG.canon.root]) tG.canon) := DG.out.newer BX (fun q hq => .inr (by rw [hq]; omega))
        replace DJ : Hid (DgAt u1 (fun q => q = bG) (.agg #[.slice aJ tJ.canon.nodes.length cJ, .int .i64 tJ.canon.root]) tJ.canon) := DJ.out.newer BX (fun q hq => .inr (by rw [hq]; omega))
        replace KS : Hid (u1.heap[bs]? = some (.cells #[.slice a0 xs.length c0, .int .u8 (N0 : Int), .slice a1 ys.length c1, .int .u8 (N1 : Int), .slice a2 zs.length c2, .int .u8 (N2 : Int)] 57 (0, 0))) := heap_below BX KS.out
        have XG := Lib.hid hX
        replace BW := Lib.hid (BW.out.trans (BX.mono BW.out.size))
        go_simp
        clear hX BX eX hBX zX
        refine hK.out _ _ (box6v KS.out) (fun hS => ?_)
        clear hK K
        try simp only [Act.put, List.getElem_toArray, List.getElem_cons_zero, List.getElem_cons_succ, List.setIfInBounds_toArray, List.set_cons_zero, List.set_cons_succ]
        rw [← hG]
        exact st3_1.out u1 aA cA tA aG cG tG aJ cJ tJ bG BW KS DA OKA BLA DG OKG BLG DJ OKJ BLJ XG NG
      · try simp only [Act.put, List.getElem_toArray, List.getElem_cons_zero, List.getElem_cons_succ, List.setIfInBounds_toArray, List.set_cons_zero, List.set_cons_succ]
        obtain ⟨u1, bJ, eX, hBX, zX, hX, BX⟩ := laid u dg0 28
        have NJ : Hid (bs + 1 ≤ bJ) := by show _ ≤ _; have := heap_lt KS.out; omega
        replace DA : Hid (DgAt u1 (fun q => q = bJ) (.agg #[.slice aA tA.canon.nodes.length cA, .int .i64 tA.canon.root]) tA.canon) := DA.out.newer BX (fun q hq => .inr (by rw [hq]; omega))
        replace DG : Hid (DgAt u1 (fun q => q = bJ) (.agg #[.slice aG tG.canon.nodes.length cG, .int .i64 tG.canon.root]) tG.canon) := DG.out.newer BX (fun q hq => .inr (by rw [hq]; omega))
        replace DJ : Hid (DgAt u1 (fun q => q = bJ) (.agg #[.slice aJ tJ.canon.nodes.length cJ, .int .i64 tJ.canon.root]) tJ.canon) := DJ.out.newer BX (fun q hq => .inr (by rw [hq]; omega))
        replace KS : Hid (u1.heap[bs]? = some (.cells #[.slice a0 xs.length c0, .int .u8 (N0 : Int), .slice a1 ys.length c1, .int .u8 (N1 : Int), .slice a2 zs.length c2, .int .u8 (N2 : Int)] 57 (0, 0))) := heap_below BX KS.out
        have XJ := Lib.hid hX
        replace BW := Lib.hid (BW.out.trans (BX.mono BW.out.size))
        go_simp
        clear hX BX eX hBX zX
        refine hK.out _ _ (box6v KS.out) (fun hS => ?_)
        clear hK K
        try simp only [Act.put, List.getElem_toArray, List.getElem_cons_zero, List.getElem_cons_succ, List.setIfInBounds_toArray, List.set_cons_zero, List.set_cons_succ]
        rw [← hG]
        exact st3_2.out u1 aA cA tA aG cG tG aJ cJ tJ bJ BW KS DA OKA BLA DG OKG BLG DJ OKJ BLJ XJ NJ
    have st2_012 : Hid (∀ (u : World) (aA : Option Addr) (cA : Nat) (tA : T) (aG : Option Addr) (cG : Nat) (tG : T) (bA : Nat) (bG : Nat) (bJ : Nat), Hid (Below w.heap.size w u) → Hid (u.heap[bs]? = some (.cells #[.slice a0 xs.length c0, .int .u8 (N0 : Int), .slice a1 ys.length c1, .int .u8 (N1 : Int), .slice a2 zs.length c2, .int .u8 (N2 : Int)] 57 (0, 0))) → Hid (DgAt u (fun q => q = bA ∨ q = bG ∨ q = bJ) (.agg #[.slice aA tA.canon.nodes.length cA, .int .i64 tA.canon.root]) tA.canon) → Hid (tA.Ok) → Hid (tA.bel (N0 % 7)) → Hid (DgAt u (fun q => q = bA ∨ q = bG ∨ q = bJ) (.agg #[.slice aG tG.canon.nodes.length cG, .int .i64 tG.canon.root]) tG.canon) → Hid (tG.Ok) → Hid (tG.bel (N1 % 7)) → Hid (u.heap[bA]? = some (.cells dg0 28 (0, 0))) → Hid (bs + 1 ≤ bA) → Hid (u.heap[bG]? = some (.cells dg0 28 (0, 0))) → Hid (bs + 1 ≤ bG) → Hid (u.heap[bJ]? = some (.cells dg0 28 (0, 0))) → Hid (bs + 1 ≤ bJ) → Hid (bA ≠ bG) → Hid (bA ≠ bJ) → Hid (bG ≠ bJ) → G 4 #[true, true, true, true, true, true, true, true, false, true, true, true, false, false, false] ⟨((.agg #[.slice a0 xs.length c0, .int .u8 (N0 : Int), .slice a1 ys.length c1, .int .u8 (N1 : Int), .slice a2 zs.length c2, .int .u8 (N2 : Int)]) :: .int .u64 (q : Int) :: (.pointer (some ⟨bs, 0, none⟩)) :: undef :: .bool false :: .bool true :: (.pointer (some ⟨bA, 0, none⟩)) :: (.pointer (some ⟨bG, 0, none⟩)) :: (.pointer (some ⟨bJ, 0, none⟩)) :: undef :: undef :: undef :: undef :: undef :: undef :: undef :: undef :: undef :: undef :: undef :: undef :: undef :: undef :: undef :: undef :: .bool true :: (.pointer (some ⟨bs, 0, none⟩)) :: (.agg #[.slice a0 xs.length c0, .int .u8 (N0 : Int)]) :: (.agg #[.slice aA tA.canon.nodes.length cA, .int .i64 tA.canon.root]) :: (.pointer (some ⟨bs, 2, none⟩)) :: (.agg #[.slice a1 ys.length c1, .int .u8 (N1 : Int)]) :: (.agg #[.slice aG tG.canon.nodes.length cG, .int .i64 tG.canon.root]) :: (.pointer (some ⟨bs, 4, none⟩)) :: (.agg #[.slice a2 zs.length c2, .int .u8 (N2 : Int)]) :: undef :: undef :: undef :: undef :: undef :: undef :: undef :: undef :: undef :: undef :: undef :: undef :: undef :: undef :: undef :: undef :: undef :: undef :: undef :: undef :: undef :: undef :: undef :: undef :: undef :: undef :: undef :: undef :: undef :: undef :: undef :: undef :: undef :: undef :: undef :: undef :: undef :: undef :: undef :: undef :: undef :: undef :: undef :: undef :: undef :: undef :: undef :: undef :: undef :: undef :: undef :: undef :: undef :: undef :: undef :: undef :: undef :: undef :: undef :: undef :: undef :: undef :: undef :: undef :: undef :: undef :: undef :: undef :: undef :: undef :: undef :: undef :: undef :: undef :: undef :: undef :: undef :: undef :: undef :: undef :: undef :: undef :: undef :: undef :: undef :: undef :: undef :: undef :: undef :: undef :: undef :: undef :: undef :: undef :: undef :: undef :: undef :: undef :: undef :: undef :: undef :: undef :: undef :: undef :: undef :: undef :: undef :: undef :: undef :: undef :: []).toArray, []⟩ u) := by
      intro u aA cA tA aG cG tG bA bG bJ BW KS DA OKA BLA DG OKG BLG XA NA XG NG XJ NJ NEAG NEAJ NEGJ
      rw [hG]
      have hS : u.cell? ⟨bs, 0, none⟩ = some (.slice a0 xs.length c0) ∧ u.cell? ⟨bs, 1, none⟩ = some (.int .u8 (N0 : Int)) ∧ u.cell? ⟨bs, 2, none⟩ = some (.slice a1 ys.length c1) ∧ u.cell? ⟨bs, 3, none⟩ = some (.int .u8 (N1 : Int)) ∧ u.cell? ⟨bs, 4, none⟩ = some (.slice a2 zs.length c2) ∧ u.cell? ⟨bs, 5, none⟩ = some (.int .u8 (N2 : Int)) := box6v KS.out
      refine wpAnyH_ready (rs := [8]) (by kernel_rfl) (by simp) ?_
      refine AllReadyH.cons rfl (fun K hK => ?_) (AllReadyH.nil)
      · try simp only [Act.put, List.getElem_toArray, List.getElem_cons_zero, List.getElem_cons_succ, List.setIfInBounds_toArray, List.set_cons_zero, List.set_cons_succ]
        go_simp
        refine (lmade_any u _ zs N2 (HS2.out.below BW.out)).mono ?_
        rintro e u1 ⟨⟨aJ, cJ, tJ, rfl, ok, bl, hM⟩, hb⟩
        have DJ := Lib.hid (hM (fun q => q = bA ∨ q = bG ∨ q = bJ) (fun q hq => by have h0 := heap_lt XA.out; have h1 := heap_lt XG.out; have h2 := heap_lt XJ.out; omega))
        have OKJ := Lib.hid ok; have BLJ := Lib.hid bl
        replace KS : Hid (u1.heap[bs]? = some (.cells #[.slice a0 xs.length c0, .int .u8 (N0 : Int), .slice a1 ys.length c1, .int .u8 (N1 : Int), .slice a2 zs.length c2, .int .u8 (N2 : Int)] 57 (0, 0))) := heap_below hb KS.out
        replace DA := Lib.hid (DA.out.below hb)
        replace DG := Lib.hid (DG.out.below hb)
        replace XA := Lib.hid (heap_below hb XA.out)
        replace XG := Lib.hid (heap_below hb XG.out)
        replace XJ := Lib.hid (heap_below hb XJ.out)
        replace BW := Lib.hid (BW.out.trans (hb.mono BW.out.size))
        clear hM hb ok bl
        refine hK.out _ _ (box6v KS.out) (fun hS => ?_)
        clear hK K
        try simp only [Act.put, List.getElem_toArray, List.getElem_cons_zero, List.getElem_cons_succ, List.setIfInBounds_toArray, List.set_cons_zero, List.set_cons_succ]
        rw [← hG]
        exact st3_012.out u1 aA cA tA aG cG tG aJ cJ tJ bA bG bJ BW KS DA OKA BLA DG OKG BLG DJ OKJ BLJ XA NA XG NG XJ NJ NEAG NEAJ NEGJ
    have st2_01 : Hid (∀ (u : World) (aA : Option Addr) (cA : Nat) (tA : T) (aG : Option Addr) (cG : Nat) (tG : T) (bA : Nat) (bG : Nat), Hid (Below w.heap.size w u) → Hid (u.heap[bs]? = some (.cells #[.slice a0 xs.length c0, .int .u8 (N0 : Int), .slice a1 ys.length c1, .int .u8 (N1 : Int), .slice a2 zs.length c2, .int .u8 (N2 : Int)] 57 (0, 0))) → Hid (DgAt u (fun q => q = bA ∨ q = bG) (.agg #[.slice aA tA.canon.nodes.length cA, .int .i64 tA.canon.root]) tA.canon) → Hid (tA.Ok) → Hid (tA.bel (N0 % 7)) → Hid (DgAt u (fun q => q = bA ∨ q = bG) (.agg #[.slice aG tG.canon.nodes.length cG, .int .i64 tG.canon.root]) tG.canon) → Hid (tG.Ok) → Hid (tG.bel (N1 % 7)) → Hid (u.heap[bA]? = some (.cells dg0 28 (0, 0))) → Hid (bs + 1 ≤ bA) → Hid (u.heap[bG]? = some (.cells dg0 28 (0, 0))) → Hid (bs + 1 ≤ bG) → Hid (bA ≠ bG) → G 5 #[true, true, true, true, true, true, true, true, false, true, true, false, false, false, false] ⟨((.agg #[.slice a0 xs.length c0, .int .u8 (N0 : Int), .slice a1 ys.length c1, .int .u8 (N1 : Int), .slice a2 zs.length c2, .int .u8 (N2 : Int)]) :: .int .u64 (q : Int) :: (.pointer (some ⟨bs, 0, none⟩)) :: undef :: .bool false :: .bool true :: (.pointer (some ⟨bA, 0, none⟩)) :: (.pointer (some ⟨bG, 0, none⟩)) :: undef :: undef :: undef :: undef :: undef :: undef :: undef :: undef :: undef :: undef :: undef :: undef :: undef :: undef :: undef :: undef :: undef :: .bool true :: (.pointer (some ⟨bs, 0, none⟩)) :: (.agg #[.slice a0 xs.length c0, .int .u8 (N0 : Int)]) :: (.agg #[.slice aA tA.canon.nodes.length cA, .int .i64 tA.canon.root]) :: (.pointer (some ⟨bs, 2, none⟩)) :: (.agg #[.slice a1 ys.length c1, .int .u8 (N1 : Int)]) :: (.agg #[.slice aG tG.canon.nodes.length cG, .int .i64 tG.canon.root]) :: (.pointer (some ⟨bs, 4, none⟩)) :: (.agg #[.slice a2 zs.length c2, .int .u8 (N2 : Int)]) :: undef :: undef :: undef :: undef :: undef :: undef :: undef :: undef :: undef :: undef :: undef :: undef :: undef :: undef :: undef :: undef :: undef :: undef :: undef :: undef :: undef :: undef :: undef :: undef :: undef :: undef :: undef :: undef :: undef :: undef :: undef :: undef :: undef :: undef :: undef :: undef :: undef :: undef :: undef :: undef :: undef :: undef :: undef :: undef :: undef :: undef :: undef :: undef :: undef :: undef :: undef :: undef :: undef :: undef :: undef :: undef :: undef :: undef :: undef :: undef :: undef :: undef :: undef :: undef :: undef :: undef :: undef :: undef :: undef :: undef :: undef :: undef :: undef :: undef :: undef :: undef :: undef :: undef :: undef :: undef :: undef :: undef :: undef :: undef :: undef :: undef :: undef :: undef :: undef :: undef :: undef :: undef :: undef :: undef :: undef :: undef :: undef :: undef :: undef :: undef :: undef :: undef :: undef :: undef :: undef :: undef :: undef :: undef :: undef :: undef :: []).toArray, []⟩ u) := by
      intro u aA cA tA aG cG tG bA bG BW KS DA OKA BLA DG OKG BLG XA NA XG NG NEAG
      rw [hG]
      have hS : u.cell? ⟨bs, 0, none⟩ = some (.slice a0 xs.length c0) ∧ u.cell? ⟨bs, 1, none⟩ = some (.int .u8 (N0 : Int)) ∧ u.cell? ⟨bs, 2, none⟩ = some (.slice a1 ys.length c1) ∧ u.cell? ⟨bs, 3, none⟩ = some (.int .u8 (N1 : Int)) ∧ u.cell? ⟨bs, 4, none⟩ = some (.slice a2 zs.length c2) ∧ u.cell? ⟨bs, 5, none⟩ = some (.int .u8 (N2 : Int)) := box6v KS.out
      refine wpAnyH_ready (rs := [8, 11]) (by kernel_rfl) (by simp) ?_
      refine AllReadyH.cons rfl (fun K hK => ?_) (AllReadyH.cons rfl (fun K hK => ?_) (AllReadyH.nil))
      · try simp only [Act.put, List.getElem_toArray, List.getElem_cons_zero, List.getElem_cons_succ, List.setIfInBounds_toArray, List.set_cons_zero, List.set_cons_succ]
        go_simp
        refine (lmade_any u _ zs N2 (HS2.out.below BW.out)).mono ?_
        rintro e u1 ⟨⟨aJ, cJ, tJ, rfl, ok, bl, hM⟩, hb⟩
        have DJ := Lib.hid (hM (fun q => q = bA ∨ q = bG) (fun q hq => by have h0 := heap_lt XA.out; have h1 := heap_lt XG.out; omega))
        have OKJ := Lib.hid ok; have BLJ := Lib.hid bl
        replace KS : Hid (u1.heap[bs]? = some (.cells #[.slice a0 xs.length c0, .int .u8 (N0 : Int), .slice a1 ys.length c1, .int .u8 (N1 : Int), .slice a2 zs.length c2, .int .u8 (N2 : Int)] 57 (0, 0))) := heap_below hb KS.out
        replace DA := Lib.hid (DA.out.below hb)
        replace DG := Lib.hid (DG.out.below hb)
        replace XA := Lib.hid (heap_below hb XA.out)
        replace XG := Lib.hid (heap_below hb XG.out)
        replace BW := Lib.hid (BW.out.trans (hb.mono BW.out.size))
        clear hM hb ok bl
        refine hK.out _ _ (box6v KS.out) (fun hS => ?_)
        clear hK K
        try simp only [Act.put, List.getElem_toArray, List.getElem_cons_zero, List.getElem_cons_succ, List.setIfInBounds_toArray, List.set_cons_zero, List.set_cons_succ]
        rw [← hG]
        exact st3_01.out u1 aA cA tA aG cG tG aJ cJ tJ bA bG BW KS DA OKA BLA DG OKG BLG DJ OKJ BLJ XA NA XG NG NEAG
      · try simp only [Act.put, List.getElem_toArray, List.getElem_cons_zero, List.getElem_cons_succ, List.setIfInBounds_toArray, List.set_cons_zero, List.set_cons_succ]
        obtain ⟨u1, bJ, eX, hBX, zX, hX, BX⟩ := laid u dg0 28
        have NJ : Hid (bs + 1 ≤ bJ) := by show _ ≤ _; have := heap_lt KS.out; omega
        have NEAJ : Hid (bA ≠ bJ) := by have h := heap_lt XA.out; show _ ≠ _; omega
        have NEGJ : Hid (bG ≠ bJ) := by have h := heap_lt XG.out; show _ ≠ _; omega
        replace DA : Hid (DgAt u1 (fun q => q = bA ∨ q = bG ∨ q = bJ) (.agg #[.slice aA tA.canon.nodes.length cA, .int .i64 tA.canon.root]) tA.canon) := DA.out.newer BX (fun q hq => by rcases hq with rfl | rfl | rfl <;> first | exact .inr (by omega) | (left; simp) )
        replace DG : Hid (DgAt u1 (fun q => q = bA ∨ q = bG ∨ q = bJ) (.agg #[.slice aG tG.canon.nodes.length cG, .int .i64 tG.canon.root]) tG.canon) := DG.out.newer BX (fun q hq => by rcases hq with rfl | rfl | rfl <;> first | exact .inr (by omega) | (left; simp) )
        replace XA := Lib.hid (heap_below BX XA.out)
        replace XG := Lib.hid (heap_below BX XG.out)
        replace KS : Hid (u1.heap[bs]? = some (.cells #[.slice a0 xs.length c0, .int .u8 (N0 : Int), .slice a1 ys.length c1, .int .u8 (N1 : Int), .slice a2 zs.length c2, .int .u8 (N2 : Int)] 57 (0, 0))) := heap_below BX KS.out
        have XJ := Lib.hid hX
        replace BW := Lib.hid (BW.out.trans (BX.mono BW.out.size))
        go_simp
        clear hX BX eX hBX zX
        refine hK.out _ _ (box6v KS.out) (fun hS => ?_)
        clear hK K
        try simp only [Act.put, List.getElem_toArray, List.getElem_cons_zero, List.getElem_cons_succ, List.setIfInBounds_toArray, List.set_cons_zero, List.set_cons_succ]
        rw [← hG]
        exact st2_012.out u1 aA cA tA aG cG tG bA bG bJ BW KS DA OKA BLA DG OKG BLG XA NA XG NG XJ NJ NEAG NEAJ NEGJ
    have st2_02 : Hid (∀ (u : World) (aA : Option Addr) (cA : Nat) (tA : T) (aG : Option Addr) (cG : Nat) (tG : T) (bA : Nat) (bJ : Nat), Hid (Below w.heap.size w u) → Hid (u.heap[bs]? = some (.cells #[.slice a0 xs.length c0, .int .u8 (N0 : Int), .slice a1 ys.length c1, .int .u8 (N1 : Int), .slice a2 zs.length c2, .int .u8 (N2 : Int)] 57 (0, 0))) → Hid (DgAt u (fun q => q = bA ∨ q = bJ) (.agg #[.slice aA tA.canon.nodes.length cA, .int .i64 tA.canon.root]) tA.canon) → Hid (tA.Ok) → Hid (tA.bel (N0 % 7)) → Hid (DgAt u (fun q => q = bA ∨ q = bJ) (.agg #[.slice aG tG.canon.nodes.length cG, .int .i64 tG.canon.root]) tG.canon) → Hid (tG.Ok) → Hid (tG.bel (N1 % 7)) → Hid (u.heap[bA]? = some (.cells dg0 28 (0, 0))) → Hid (bs + 1 ≤ bA) → Hid (u.heap[bJ]? = some (.cells dg0 28 (0, 0))) → Hid (bs + 1 ≤ bJ) → Hid (bA ≠ bJ) → G 5 #[true, true, true, true, true, true, true, true, false, true, false, true, false, false, false] ⟨((.agg #[.slice a0 xs.length c0, .int .u8 (N0 : Int), .slice a1 ys.length c1, .int .u8 (N1 : Int), .slice a2 zs.length c2, .int .u8 (N2 : Int)]) :: .int .u64 (q : Int) :: (.pointer (some ⟨bs, 0, none⟩)) :: undef :: .bool false :: .bool true :: (.pointer (some ⟨bA, 0, none⟩)) :: undef :: (.pointer (some ⟨bJ, 0, none⟩)) :: undef :: undef :: undef :: undef :: undef :: undef :: undef :: undef :: undef :: undef :: undef :: undef :: undef :: undef :: undef :: undef :: .bool true :: (.pointer (some ⟨bs, 0, none⟩)) :: (.agg #[.slice a0 xs.length c0, .int .u8 (N0 : Int)]) :: (.agg #[.slice aA tA.canon.nodes.length cA, .int .i64 tA.canon.root]) :: (.pointer (some ⟨bs, 2, none⟩)) :: (.agg #[.slice a1 ys.length c1, .int .u8 (N1 : Int)]) :: (.agg #[.slice aG tG.canon.nodes.length cG, .int .i64 tG.canon.root]) :: (.pointer (some ⟨bs, 4, none⟩)) :: (.agg #[.slice a2 zs.length c2, .int .u8 (N2 : Int)]) :: undef :: undef :: undef :: undef :: undef :: undef :: undef :: undef :: undef :: undef :: undef :: undef :: undef :: undef :: undef :: undef :: undef :: undef :: undef :: undef :: undef :: undef :: undef :: undef :: undef :: undef :: undef :: undef :: undef :: undef :: undef :: undef :: undef :: undef :: undef :: undef :: undef :: undef :: undef :: undef :: undef :: undef :: undef :: undef :: undef :: undef :: undef :: undef :: undef :: undef :: undef :: undef :: undef :: undef :: undef :: undef :: undef :: undef :: undef :: undef :: undef :: undef :: undef :: undef :: undef :: undef :: undef :: undef :: undef :: undef :: undef :: undef :: undef :: undef :: undef :: undef :: undef :: undef :: undef :: undef :: undef :: undef :: undef :: undef :: undef :: undef :: undef :: undef :: undef :: undef :: undef :: undef :: undef :: undef :: undef :: undef :: undef :: undef :: undef :: undef :: undef :: undef :: undef :: undef :: undef :: undef :: undef :: undef :: undef :: undef :: []).toArray, []⟩ u) := by
      intro u aA cA tA aG cG tG bA bJ BW KS DA OKA BLA DG OKG BLG XA NA XJ NJ NEAJ
      rw [hG]
      have hS : u.cell? ⟨bs, 0, none⟩ = some (.slice a0 xs.length c0) ∧ u.cell? ⟨bs, 1, none⟩ = some (.int .u8 (N0 : Int)) ∧ u.cell? ⟨bs, 2, none⟩ = some (.slice a1 ys.length c1) ∧ u.cell? ⟨bs, 3, none⟩ = some (.int .u8 (N1 : Int)) ∧ u.cell? ⟨bs, 4, none⟩ = some (.slice a2 zs.length c2) ∧ u.cell? ⟨bs, 5, none⟩ = some (.int .u8 (N2 : Int)) := box6v KS.out
      refine wpAnyH_ready (rs := [8, 10]) (by kernel_rfl) (by simp) ?_
      refine AllReadyH.cons rfl (fun K hK => ?_) (AllReadyH.cons rfl (fun K hK => ?_) (AllReadyH.nil))
      · try simp only [Act.put, List.getElem_toArray, List.getElem_cons_zero, List.getElem_cons_succ, List.setIfInBounds_toArray, List.set_cons_zero, List.set_cons_succ]
        go_simp
        refine (lmade_any u _ zs N2 (HS2.out.below BW.out)).mono ?_
        rintro e u1 ⟨⟨aJ, cJ, tJ, rfl, ok, bl, hM⟩, hb⟩
        have DJ := Lib.hid (hM (fun q => q = bA ∨ q = bJ) (fun q hq => by have h0 := heap_lt XA.out; have h2 := heap_lt XJ.out; omega))
        have OKJ := Lib.hid ok; have BLJ := Lib.hid bl
        replace KS : Hid (u1.heap[bs]? = some (.cells #[.slice a0 xs.length c0, .int .u8 (N0 : Int), .slice a1 ys.length c1, .int .u8 (N1 : Int), .slice a2 zs.length c2, .int .u8 (N2 : Int)] 57 (0, 0))) := heap_below hb KS.out
        replace DA := Lib.hid (DA.out.below hb)
        replace DG := Lib.hid (DG.out.below hb)
        replace XA := Lib.hid (heap_below hb XA.out)
        replace XJ := Lib.hid (heap_below hb XJ.out)
        replace BW := Lib.hid (BW.out.trans (hb.mono BW.out.size))
        clear hM hb ok bl
        refine hK.out _ _ (box6v KS.out) (fun hS => ?_)
        clear hK K
        try simp only [Act.put, List.getElem_toArray, List.getElem_cons_zero, List.getElem_cons_succ, List.setIfInBounds_toArray, List.set_cons_zero, List.set_cons_succ]
        rw [← hG]
        exact st3_02.out u1 aA cA tA aG cG tG aJ cJ tJ bA bJ BW KS DA OKA BLA DG OKG BLG DJ OKJ BLJ XA NA XJ NJ NEAJ
      · try simp only [Act.put, List.getElem_toArray, List.getElem_cons_zero, List.getElem_cons_succ, List.setIfInBounds_toArray, List.set_cons_zero, List.set_cons_succ]
        obtain ⟨u1, bG, eX, hBX, zX, hX, BX⟩ := laid u dg0 28
        have NG : Hid (bs + 1 ≤ bG) := by show _ ≤ _; have := heap_lt KS.out; omega
        have NEAG : Hid (bA ≠ bG) := by have h := heap_lt XA.out; show _ ≠ _; omega
        have NEGJ : Hid (bG ≠ bJ) := by have h := heap_lt XJ.out; show _ ≠ _; omega
        replace DA : Hid (DgAt u1 (fun q => q = bA ∨ q = bG ∨ q = bJ) (.agg #[.slice aA tA.canon.nodes.length cA, .int .i64 tA.canon.root]) tA.canon) := DA.out.newer BX (fun q hq => by rcases hq with rfl | rfl | rfl <;> first | exact .inr (by omega) | (left; simp) )
        replace DG : Hid (DgAt u1 (fun q => q = bA ∨ q = bG ∨ q = bJ) (.agg #[.slice aG tG.canon.nodes.length cG, .int .i64 tG.canon.root]) tG.canon) := DG.out.newer BX (fun q hq => by rcases hq with rfl | rfl | rfl <;> first | exact .inr (by omega) | (left; simp) )
        replace XA := Lib.hid (heap_below BX XA.out)
        replace XJ := Lib.hid (heap_below BX XJ.out)
        replace KS : Hid (u1.heap[bs]? = some (.cells #[.slice a0 xs.length c0, .int .u8 (N0 : Int), .slice a1 ys.length c1, .int .u8 (N1 : Int), .slice a2 zs.length c2, .int .u8 (N2 : Int)] 57 (0, 0))) := heap_below BX KS.out
        have XG := Lib.hid hX
        replace BW := Lib.hid (BW.out.trans (BX.mono BW.out.size))
        go_simp
        clear hX BX eX hBX zX
        refine hK.out _ _ (box6v KS.out) (fun hS => ?_)
        clear hK K
        try simp only [Act.put, List.getElem_toArray, List.getElem_cons_zero, List.getElem_cons_succ, List.setIfInBounds_toArray, List.set_cons_zero, List.set_cons_succ]
        rw [← hG]
        exact st2_012.out u1 aA cA tA aG cG tG bA bG bJ BW KS DA OKA BLA DG OKG BLG XA NA XG NG XJ NJ NEAG NEAJ NEGJ
    have st2_12 : Hid (∀ (u : World) (aA : Option Addr) (cA : Nat) (tA : T) (aG : Option Addr) (cG : Nat) (tG : T) (bG : Nat) (bJ : Nat), Hid (Below w.heap.size w u) → Hid (u.heap[bs]? = some (.cells #[.slice a0 xs.length c0, .int .u8 (N0 : Int), .slice a1 ys.length c1, .int .u8 (N1 : Int), .slice a2 zs.length c2, .int .u8 (N2 : Int)] 57 (0, 0))) → Hid (DgAt u (fun q => q = bG ∨ q = bJ) (.agg #[.slice aA tA.canon.nodes.length cA, .int .i64 tA.canon.root]) tA.canon) → Hid (tA.Ok) → Hid (tA.bel (N0 % 7)) → Hid (DgAt u (fun q => q = bG ∨ q = bJ) (.agg #[.slice aG tG.canon.nodes.length cG, .int .i64 tG.canon.root]) tG.canon) → Hid (tG.Ok) → Hid (tG.bel (N1 % 7)) → Hid (u.heap[bG]? = some (.cells dg0 28 (0, 0))) → Hid (bs + 1 ≤ bG) → Hid (u.heap[bJ]? = some (.cells dg0 28 (0, 0))) → Hid (bs + 1 ≤ bJ) → Hid (bG ≠ bJ) → G 5 #[true, true, true, true, true, true, true, true, false, false, true, true, false, false, false] ⟨((.agg #[.slice a0 xs.length c0, .int .u8 (N0 : Int), .slice a1 ys.length c1, .int .u8 (N1 : Int), .slice a2 zs.length c2, .int .u8 (N2 : Int)]) :: .int .u64 (q : Int) :: (.pointer (some ⟨bs, 0, none⟩)) :: undef :: .bool false :: .bool true :: undef :: (.pointer (some ⟨bG, 0, none⟩)) :: (.pointer (some ⟨bJ, 0, none⟩)) :: undef :: undef :: undef :: undef :: undef :: undef :: undef :: undef :: undef :: undef :: undef :: undef :: undef :: undef :: undef :: undef :: .bool true :: (.pointer (some ⟨bs, 0, none⟩)) :: (.agg #[.slice a0 xs.length c0, .int .u8 (N0 : Int)]) :: (.agg #[.slice aA tA.canon.nodes.length cA, .int .i64 tA.canon.root]) :: (.pointer (some ⟨bs, 2, none⟩)) :: (.agg #[.slice a1 ys.length c1, .int .u8 (N1 : Int)]) :: (.agg #[.slice aG tG.canon.nodes.length cG, .int .i64 tG.canon.root]) :: (.pointer (some ⟨bs, 4, none⟩)) :: (.agg #[.slice a2 zs.length c2, .int .u8 (N2 : Int)]) :: undef :: undef :: undef :: undef :: undef :: undef :: undef :: undef :: undef :: undef :: undef :: undef :: undef :: undef :: undef :: undef :: undef :: undef :: undef :: undef :: undef :: undef :: undef :: undef :: undef :: undef :: undef :: undef :: undef :: undef :: undef :: undef :: undef :: undef :: undef :: undef :: undef :: undef :: undef :: undef :: undef :: undef :: undef :: undef :: undef :: undef :: undef :: undef :: undef :: undef :: undef :: undef :: undef :: undef :: undef :: undef :: undef :: undef :: undef :: undef :: undef :: undef :: undef :: undef :: undef :: undef :: undef :: undef :: undef :: undef :: undef :: undef :: undef :: undef :: undef :: undef :: undef :: undef :: undef :: undef :: undef :: undef :: undef :: undef :: undef :: undef :: undef :: undef :: undef :: undef :: undef :: undef :: undef :: undef :: undef :: undef :: undef :: undef :: undef :: undef :: undef :: undef :: undef :: undef :: undef :: undef :: undef :: undef :: undef :: undef :: []).toArray, []⟩ u) := by
      intro u aA cA tA aG cG tG bG bJ BW KS DA OKA BLA DG OKG BLG XG NG XJ NJ NEGJ
      rw [hG]
      have hS : u.cell? ⟨bs, 0, none⟩ = some (.slice a0 xs.length c0) ∧ u.cell? ⟨bs, 1, none⟩ = some (.int .u8 (N0 : Int)) ∧ u.cell? ⟨bs, 2, none⟩ = some (.slice a1 ys.length c1) ∧ u.cell? ⟨bs, 3, none⟩ = some (.int .u8 (N1 : Int)) ∧ u.cell? ⟨bs, 4, none⟩ = some (.slice a2 zs.length c2) ∧ u.cell? ⟨bs, 5, none⟩ = some (.int .u8 (N2 : Int)) := box6v KS.out
      refine wpAnyH_ready (rs := [8, 9]) (by kernel_rfl) (by simp) ?_
      refine AllReadyH.cons rfl (fun K hK => ?_) (AllReadyH.cons rfl (fun K hK => ?_) (AllReadyH.nil))
      · try simp only [Act.put, List.getElem_toArray, List.getElem_cons_zero, List.getElem_cons_succ, List.setIfInBounds_toArray, List.set_cons_zero, List.set_cons_succ]
        go_simp
        refine (lmade_any u _ zs N2 (HS2.out.below BW.out)).mono ?_
        rintro e u1 ⟨⟨aJ, cJ, tJ, rfl, ok, bl, hM⟩, hb⟩
        have DJ := Lib.hid (hM (fun q => q = bG ∨ q = bJ) (fun q hq => by have h1 := heap_lt XG.out; have h2 := heap_lt XJ.out; omega))
        have OKJ := Lib.hid ok; have BLJ := Lib.hid bl
        replace KS : Hid (u1.heap[bs]? = some (.cells #[.slice a0 xs.length c0, .int .u8 (N0 : Int), .slice a1 ys.length c1, .int .u8 (N1 : Int), .slice a2 zs.length c2, .int .u8 (N2 : Int)] 57 (0, 0))) := heap_below hb KS.out
        replace DA := Lib.hid (DA.out.below hb)
        replace DG := Lib.hid (DG.out.below hb)
        replace XG := Lib.hid (heap_below hb XG.out)
        replace XJ := Lib.hid (heap_below hb XJ.out)
        replace BW := Lib.hid (BW.out.trans (hb.mono BW.out.size))
        clear hM hb ok bl
        refine hK.out _ _ (box6v KS.out) (fun hS => ?_)
        clear hK K
        try simp only [Act.put, List.getElem_toArray, List.getElem_cons_zero, List.getElem_cons_succ, List.setIfInBounds_toArray, List.set_cons_zero, List.set_cons_succ]
        rw [← hG]
        exact st3_12.out u1 aA cA tA aG cG tG aJ cJ tJ bG bJ BW KS DA OKA BLA DG OKG BLG DJ OKJ BLJ XG NG XJ NJ NEGJ
      · try simp only [Act.put, List.getElem_toArray, List.getElem_cons_zero, List.getElem_cons_succ, List.setIfInBounds_toArray, List.set_cons_zero, List.set_cons_succ]
        obtain ⟨u1, bA, eX, hBX, zX, hX, BX⟩ := laid u dg0 28
        have NA : Hid (bs + 1 ≤ bA) := by show _ ≤ _; have := heap_lt KS.out; omega
        have NEAG : Hid (bA ≠ bG) := by have h := heap_lt XG.out; show _ ≠ _; omega
        have NEAJ : Hid (bA ≠ bJ) := by have h := heap_lt XJ.out; show _ ≠ _; omega
        replace DA : Hid (DgAt u1 (fun q => q = bA ∨ q = bG ∨ q = bJ) (.agg #[.slice aA tA.canon.nodes.length cA, .int .i64 tA.canon.root]) tA.canon) := DA.out.newer BX (fun q hq => by rcases hq with rfl | rfl | rfl <;> first | exact .inr (by omega) | (left; simp) )
        replace DG : Hid (DgAt u1 (fun q => q = bA ∨ q = bG ∨ q = bJ) (.agg #[.slice aG tG.canon.nodes.length cG, .int .i64 tG.canon.root]) tG.canon) := DG.out.newer BX (fun q hq => by rcases hq with rfl | rfl | rfl <;> first | exact .inr (by omega) | (left; simp) )
        replace XG := Lib.hid (heap_below BX XG.out)
        replace XJ := Lib.hid (heap_below BX XJ.out)
        replace KS : Hid (u1.heap[bs]? = some (.cells #[.slice a0 xs.length c0, .int .u8 (N0 : Int), .slice a1 ys.length c1, .int .u8 (N1 : Int), .slice a2 zs.length c2, .int .u8 (N2 : Int)] 57 (0, 0))) := heap_below BX KS.out
        have XA := Lib.hid hX
        replace BW := Lib.hid (BW.out.trans (BX.mono BW.out.size))
        go_simp
        clear hX BX eX hBX zX
        refine hK.out _ _ (box6v KS.out) (fun hS => ?_)
        clear hK K
        try simp only [Act.put, List.getElem_toArray, List.getElem_cons_zero, List.getElem_cons_succ, List.setIfInBounds_toArray, List.set_cons_zero, List.set_cons_succ]
        rw [← hG]
        exact st2_012.out u1 aA cA tA aG cG tG bA bG bJ BW KS DA OKA BLA DG OKG BLG XA NA XG NG XJ NJ NEAG NEAJ NEGJ
    have st2_0 : Hid (∀ (u : World) (aA : Option Addr) (cA : Nat) (tA : T) (aG : Option Addr) (cG : Nat) (tG : T) (bA : Nat), Hid (Below w.heap.size w u) → Hid (u.heap[bs]? = some (.cells #[.slice a0 xs.length c0, .int .u8 (N0 : Int), .slice a1 ys.length c1, .int .u8 (N1 : Int), .slice a2 zs.length c2, .int .u8 (N2 : Int)] 57 (0, 0))) → Hid (DgAt u (fun q => q = bA) (.agg #[.slice aA tA.canon.nodes.length cA, .int .i64 tA.canon.root]) tA.canon) → Hid (tA.Ok) → Hid (tA.bel (N0 % 7)) → Hid (DgAt u (fun q => q = bA) (.agg #[.slice aG tG.canon.nodes.length cG, .int .i64 tG.canon.root]) tG.canon) → Hid (tG.Ok) → Hid (tG.bel (N1 % 7)) → Hid (u.heap[bA]? = some (.cells dg0 28 (0, 0))) → Hid (bs + 1 ≤ bA) → G 6 #[true, true, true, true, true, true, true, true, false, true, false, false, false, false, false] ⟨((.agg #[.slice a0 xs.length c0, .int .u8 (N0 : Int), .slice a1 ys.length c1, .int .u8 (N1 : Int), .slice a2 zs.length c2, .int .u8 (N2 : Int)]) :: .int .u64 (q : Int) :: (.pointer (some ⟨bs, 0, none⟩)) :: undef :: .bool false :: .bool true :: (.pointer (some ⟨bA, 0, none⟩)) :: undef :: undef :: undef :: undef :: undef :: undef :: undef :: undef :: undef :: undef :: undef :: undef :: undef :: undef :: undef :: undef :: undef :: undef :: .bool true :: (.pointer (some ⟨bs, 0, none⟩)) :: (.agg #[.slice a0 xs.length c0, .int .u8 (N0 : Int)]) :: (.agg #[.slice aA tA.canon.nodes.length cA, .int .i64 tA.canon.root]) :: (.pointer (some ⟨bs, 2, none⟩)) :: (.agg #[.slice a1 ys.length c1, .int .u8 (N1 : Int)]) :: (.agg #[.slice aG tG.canon.nodes.length cG, .int .i64 tG.canon.root]) :: (.pointer (some ⟨bs, 4, none⟩)) :: (.agg #[.slice a2 zs.length c2, .int .u8 (N2 : Int)]) :: undef :: undef :: undef :: undef :: undef :: undef :: undef :: undef :: undef :: undef :: undef :: undef :: undef :: undef :: undef :: undef :: undef :: undef :: undef :: undef :: undef :: undef :: undef :: undef :: undef :: undef :: undef :: undef :: undef :: undef :: undef :: undef :: undef :: undef :: undef :: undef :: undef :: undef :: undef :: undef :: undef :: undef :: undef :: undef :: undef :: undef :: undef :: undef :: undef :: undef :: undef :: undef :: undef :: undef :: undef :: undef :: undef :: undef :: undef :: undef :: undef :: undef :: undef :: undef :: undef :: undef :: undef :: undef :: undef :: undef :: undef :: undef :: undef :: undef :: undef :: undef :: undef :: undef :: undef :: undef :: undef :: undef :: undef :: undef :: undef :: undef :: undef :: undef :: undef :: undef :: undef :: undef :: undef :: undef :: undef :: undef :: undef :: undef :: undef :: undef :: undef :: undef :: undef :: undef :: undef :: undef :: undef :: undef :: undef :: undef :: []).toArray, []⟩ u) := by
      intro u aA cA tA aG cG tG bA BW KS DA OKA BLA DG OKG BLG XA NA
      rw [hG]
      have hS : u.cell? ⟨bs, 0, none⟩ = some (.slice a0 xs.length c0) ∧ u.cell? ⟨bs, 1, none⟩ = some (.int .u8 (N0 : Int)) ∧ u.cell? ⟨bs, 2, none⟩ = some (.slice a1 ys.length c1) ∧ u.cell? ⟨bs, 3, none⟩ = some (.int .u8 (N1 : Int)) ∧ u.cell? ⟨bs, 4, none⟩ = some (.slice a2 zs.length c2) ∧ u.cell? ⟨bs, 5, none⟩ = some (.int .u8 (N2 : Int)) := box6v KS.out
      refine wpAnyH_ready (rs := [8, 10, 11]) (by kernel_rfl) (by simp) ?_
      refine AllReadyH.cons rfl (fun K hK => ?_) (AllReadyH.cons rfl (fun K hK => ?_) (AllReadyH.cons rfl (fun K hK => ?_) (AllReadyH.nil)))
      · try simp only [Act.put, List.getElem_toArray, List.getElem_cons_zero, List.getElem_cons_succ, List.setIfInBounds_toArray, List.set_cons_zero, List.set_cons_succ]
        go_simp
        refine (lmade_any u _ zs N2 (HS2.out.below BW.out)).mono ?_
        rintro e u1 ⟨⟨aJ, cJ, tJ, rfl, ok, bl, hM⟩, hb⟩
        have DJ := Lib.hid (hM (fun q => q = bA) (fun q hq => by have h0 := heap_lt XA.out; omega))
        have OKJ := Lib.hid ok; have BLJ := Lib.hid bl
        replace KS : Hid (u1.heap[bs]? = some (.cells #[.slice a0 xs.length c0, .int .u8 (N0 : Int), .slice a1 ys.length c1, .int .u8 (N1 : Int), .slice a2 zs.length c2, .int .u8 (N2 : Int)] 57 (0, 0))) := heap_below hb KS.out
        replace DA := Lib.hid (DA.out.below hb)
        replace DG := Lib.hid (DG.out.below hb)
        replace XA := Lib.hid (heap_below hb XA.out)
        replace BW := Lib.hid (BW.out.trans (hb.mono BW.out.size))
        clear hM hb ok bl
        refine hK.out _ _ (box6v KS.out) (fun hS => ?_)
        clear hK K
        try simp only [Act.put, List.getElem_toArray, List.getElem_cons_zero, List.getElem_cons_succ, List.setIfInBounds_toArray, List.set_cons_zero, List.set_cons_succ]
        rw [← hG]
        exact st3_0.out u1 aA cA tA aG cG tG aJ cJ tJ bA BW KS DA OKA BLA DG OKG BLG DJ OKJ BLJ XA NA
      · try simp only [Act.put, List.getElem_toArray, List.getElem_cons_zero, List.getElem_cons_succ, List.setIfInBounds_toArray, List.set_cons_zero, List.set_cons_succ]
        obtain ⟨u1, bG, eX, hBX, zX, hX, BX⟩ := laid u dg0 28
        have NG : Hid (bs + 1 ≤ bG) := by show _ ≤ _; have := heap_lt KS.out; omega
        have NEAG : Hid (bA ≠ bG) := by have h := heap_lt XA.out; show _ ≠ _; omega
        replace DA : Hid (DgAt u1 (fun q => q = bA ∨ q = bG) (.agg #[.slice aA tA.canon.nodes.length cA, .int .i64 tA.canon.root]) tA.canon) := DA.out.newer BX (fun q hq => by rcases hq with rfl | rfl <;> first | exact .inr (by omega) | (left; simp) )
        replace DG : Hid (DgAt u1 (fun q => q = bA ∨ q = bG) (.agg #[.slice aG tG.canon.nodes.length cG, .int .i64 tG.canon.root]) tG.canon) := DG.out.newer BX (fun q hq => by rcases hq with rfl | rfl <;> first | exact .inr (by omega) | (left; simp) )
        replace XA := Lib.hid (heap_below BX XA.out)
        replace KS : Hid (u1.heap[bs]? = some (.cells #[.slice a0 xs.length c0, .int .u8 (N0 : Int), .slice a1 ys.length c1, .int .u8 (N1 : Int), .slice a2 zs.length c2, .int .u8 (N2 : Int)] 57 (0, 0))) := heap_below BX KS.out
        have XG := Lib.hid hX
        replace BW := Lib.hid (BW.out.trans (BX.mono BW.out.size))
        go_simp
        clear hX BX eX hBX zX
        refine hK.out _ _ (box6v KS.out) (fun hS => ?_)
        clear hK K
        try simp only [Act.put, List.getElem_toArray, List.getElem_cons_zero, List.getElem_cons_succ, List.setIfInBounds_toArray, List.set_cons_zero, List.set_cons_succ]
        rw [← hG]
        exact st2_01.out u1 aA cA tA aG cG tG bA bG BW KS DA OKA BLA DG OKG BLG XA NA XG NG NEAG
      · try simp only [Act.put, List.getElem_toArray, List.getElem_cons_zero, List.getElem_cons_succ, List.setIfInBounds_toArray, List.set_cons_zero, List.set_cons_succ]
        obtain ⟨u1, bJ, eX, hBX, zX, hX, BX⟩ := laid u dg0 28
        have NJ : Hid (bs + 1 ≤ bJ) := by show _ ≤ _; have := heap_lt KS.out; omega
        have NEAJ : Hid (bA ≠ bJ) := by have h := heap_lt XA.out; show _ ≠ _; omega
        replace DA : Hid (DgAt u1 (fun q => q = bA ∨ q = bJ) (.agg #[.slice aA tA.canon.nodes.length cA, .int .i64 tA.canon.root]) tA.canon) := DA.out.newer BX (fun q hq => by rcases hq with rfl | rfl <;> first | exact .inr (by omega) | (left; simp) )
        replace DG : Hid (DgAt u1 (fun q => q = bA ∨ q = bJ) (.agg #[.slice aG tG.canon.nodes.length cG, .int .i64 tG.canon.root]) tG.canon) := DG.out.newer BX (fun q hq => by rcases hq with rfl | rfl <;> first | exact .inr (by omega) | (left; simp) )
        replace XA := Lib.hid (heap_below BX XA.out)
        replace KS : Hid (u1.heap[bs]? = some (.cells #[.slice a0 xs.length c0, .int .u8 (N0 : Int), .slice a1 ys.length c1, .int .u8 (N1 : Int), .slice a2 zs.length c2, .int .u8 (N2 : Int)] 57 (0, 0))) := heap_below BX KS.out
        have XJ := Lib.hid hX
        replace BW := Lib.hid (BW.out.trans (BX.mono BW.out.size))
        go_simp
        clear hX BX eX hBX zX
        refine hK.out _ _ (box6v KS.out) (fun hS => ?_)
        clear hK K
        try simp only [Act.put, List.getElem_toArray, List.getElem_cons_zero, List.getElem_cons_succ, List.setIfInBounds_toArray, List.set_cons_zero, List.set_cons_succ]
        rw [← hG]
        exact st2_02.out u1 aA cA tA aG cG tG bA bJ BW KS DA OKA BLA DG OKG BLG XA NA XJ NJ NEAJ
    have st2_1 : Hid (∀ (u : World) (aA : Option Addr) (cA : Nat) (tA : T) (aG : Option Addr) (cG : Nat) (tG : T) (bG : Nat), Hid (Below w.heap.size w u) → Hid (u.heap[bs]? = some (.cells #[.slice a0 xs.length c0, .int .u8 (N0 : Int), .slice a1 ys.length c1, .int .u8 (N1 : Int), .slice a2 zs.length c2, .int .u8 (N2 : Int)] 57 (0, 0))) → Hid (DgAt u (fun q => q = bG) (.agg #[.slice aA tA.canon.nodes.length cA, .int .i64 tA.canon.root]) tA.canon) → Hid (tA.Ok) → Hid (tA.bel (N0 % 7)) → Hid (DgAt u (fun q => q = bG) (.agg #[.slice aG tG.canon.nodes.length cG, .int .i64 tG.canon.root]) tG.canon) → Hid (tG.Ok) → Hid (tG.bel (N1 % 7)) → Hid (u.heap[bG]? = some (.cells dg0 28 (0, 0))) → Hid (bs + 1 ≤ bG) → G 6 #[true, true, true, true, true, true, true, true, false, false, true, false, false, false, false] ⟨((.agg #[.slice a0 xs.length c0, .int .u8 (N0 : Int), .slice a1 ys.length c1, .int .u8 (N1 : Int), .slice a2 zs.length c2, .int .u8 (N2 : Int)]) :: .int .u64 (q : Int) :: (.pointer (some ⟨bs, 0, none⟩)) :: undef :: .bool false :: .bool true :: undef :: (.pointer (some ⟨bG, 0, none⟩)) :: undef :: undef :: undef :: undef :: undef :: undef :: undef :: undef :: undef :: undef :: undef :: undef :: undef :: undef :: undef :: undef :: undef :: .bool true :: (.pointer (some ⟨bs, 0, none⟩)) :: (.agg #[.slice a0 xs.length c0, .int .u8 (N0 : Int)]) :: (.agg #[.slice aA tA.canon.nodes.length cA, .int .i64 tA.canon.root]) :: (.pointer (some ⟨bs, 2, none⟩)) :: (.agg #[.slice a1 ys.length c1, .int .u8 (N1 : Int)]) :: (.agg #[.slice aG tG.canon.nodes.length cG, .int .i64 tG.canon.root]) :: (.pointer (some ⟨bs, 4, none⟩)) :: (.agg #[.slice a2 zs.length c2, .int .u8 (N2 : Int)]) :: undef :: undef :: undef :: undef :: undef :: undef :: undef :: undef :: undef :: undef :: undef :: undef :: undef :: undef :: undef :: undef :: undef :: undef :: undef :: undef :: undef :: undef :: undef :: undef :: undef :: undef :: undef :: undef :: undef :: undef :: undef :: undef :: undef :: undef :: undef :: undef :: undef :: undef :: undef :: undef :: undef :: undef :: undef :: undef :: undef :: undef :: undef :: undef :: undef :: undef :: undef :: undef :: undef :: undef :: undef :: undef :: undef :: undef :: undef :: undef :: undef :: undef :: undef :: undef :: undef :: undef :: undef :: undef :: undef :: undef :: undef :: undef :: undef :: undef :: undef :: undef :: undef :: undef :: undef :: undef :: undef :: undef :: undef :: undef :: undef :: undef :: undef :: undef :: undef :: undef :: undef :: undef :: undef :: undef :: undef :: undef :: undef :: undef :: undef :: undef :: undef :: undef :: undef :: undef :: undef :: undef :: undef :: undef :: undef :: undef :: []).toArray, []⟩ u) := by
      intro u aA cA tA aG cG tG bG BW KS DA OKA BLA DG OKG BLG XG NG
      rw [hG]
      have hS : u.cell? ⟨bs, 0, none⟩ = some (.slice a0 xs.length c0) ∧ u.cell? ⟨bs, 1, none⟩ = some (.int .u8 (N0 : Int)) ∧ u.cell? ⟨bs, 2, none⟩ = some (.slice a1 ys.length c1) ∧ u.cell? ⟨bs, 3, none⟩ = some (.int .u8 (N1 : Int)) ∧ u.cell? ⟨bs, 4, none⟩ = some (.slice a2 zs.length c2) ∧ u.cell? ⟨bs, 5, none⟩ = some (.int .u8 (N2 : Int)) := box6v KS.out
      refine wpAnyH_ready (rs := [8, 9, 11]) (by kernel_rfl) (by simp) ?_
      refine AllReadyH.cons rfl (fun K hK => ?_) (AllReadyH.cons rfl (fun K hK => ?_) (AllReadyH.cons rfl (fun K hK => ?_) (AllReadyH.nil)))
      · try simp only [Act.put, List.getElem_toArray, List.getElem_cons_zero, List.getElem_cons_succ, List.setIfInBounds_toArray, List.set_cons_zero, List.set_cons_succ]
        go_simp
        refine (lmade_any u _ zs N2 (HS2.out.below BW.out)).mono ?_
        rintro e u1 ⟨⟨aJ, cJ, tJ, rfl, ok, bl, hM⟩, hb⟩
        have DJ := Lib.hid (hM (fun q => q = bG) (fun q hq => by have h1 := heap_lt XG.out; omega))
        have OKJ := Lib.hid ok; have BLJ := Lib.hid bl
        replace KS : Hid (u1.heap[bs]? = some (.cells #[.slice a0 xs.length c0, .int .u8 (N0 : Int), .slice a1 ys.length c1, .int .u8 (N1 : Int), .slice a2 zs.length c2, .int .u8 (N2 : Int)] 57 (0, 0))) := heap_below hb KS.out
        replace DA := Lib.hid (DA.out.below hb)
        replace DG := Lib.hid (DG.out.below hb)
        replace XG := Lib.hid (heap_below hb XG.out)
        replace BW := Lib.hid (BW.out.trans (hb.mono BW.out.size))
        clear hM hb ok bl
        refine hK.out _ _ (box6v KS.out) (fun hS => ?_)
        clear hK K
        try simp only [Act.put, List.getElem_toArray, List.getElem_cons_zero, List.getElem_cons_succ, List.setIfInBounds_toArray, List.set_cons_zero, List.set_cons_succ]
        rw [← hG]
        exact st3_1.out u1 aA cA tA aG cG tG aJ cJ tJ bG BW KS DA OKA BLA DG OKG BLG DJ OKJ BLJ XG NG
      · try simp only [Act.put, List.getElem_toArray, List.getElem_cons_zero, List.getElem_cons_succ, List.setIfInBounds_toArray, List.set_cons_zero, List.set_cons_succ]
        obtain ⟨u1, bA, eX, hBX, zX, hX, BX⟩ := laid u dg0 28
        have NA : Hid (bs + 1 ≤ bA) := by show _ ≤ _; have := heap_lt KS.out; omega
        have NEAG : Hid (bA ≠ bG) := by have h := heap_lt XG.out; show _ ≠ _; omega
        replace DA : Hid (DgAt u1 (fun q => q = bA ∨ q = bG) (.agg #[.slice aA tA.canon.nodes.length cA, .int .i64 tA.canon.root]) tA.canon) := DA.out.newer BX (fun q hq => by rcases hq with rfl | rfl <;> first | exact .inr (by omega) | (left; simp) )
        replace DG : Hid (DgAt u1 (fun q => q = bA ∨ q = bG) (.agg #[.slice aG tG.canon.nodes.length cG, .int .i64 tG.canon.root]) tG.canon) := DG.out.newer BX (fun q hq => by rcases hq with rfl | rfl <;> first | exact .inr (by omega) | (left; simp) )
        replace XG := Lib.hid (heap_below BX XG.out)
        replace KS : Hid (u1.heap[bs]? = some (.cells #[.slice a0 xs.length c0, .int .u8 (N0 : Int), .slice a1 ys.length c1, .int .u8 (N1 : Int), .slice a2 zs.length c2, .int .u8 (N2 : Int)] 57 (0, 0))) := heap_below BX KS.out
        have XA := Lib.hid hX
        replace BW := Lib.hid (BW.out.trans (BX.mono BW.out.size))
        go_simp
        clear hX BX eX hBX zX
        refine hK.out _ _ (box6v KS.out) (fun hS => ?_)
        clear hK K
        try simp only [Act.put, List.getElem_toArray, List.getElem_cons_zero, List.getElem_cons_succ, List.setIfInBounds_toArray, List.set_cons_zero, List.set_cons_succ]
        rw [← hG]
        exact st2_01.out u1 aA cA tA aG cG tG bA bG BW KS DA OKA BLA DG OKG BLG XA NA XG NG NEAG
      · try simp only [Act.put, List.getElem_toArray, List.getElem_cons_zero, List.getElem_cons_succ, List.setIfInBounds_toArray, List.set_cons_zero, List.set_cons_succ]
        obtain ⟨u1, bJ, eX, hBX, zX, hX, BX⟩ := laid u dg0 28
        have NJ : Hid (bs + 1 ≤ bJ) := by show _ ≤ _; have := heap_lt KS.out; omega
        have NEGJ : Hid (bG ≠ bJ) := by have h := heap_lt XG.out; show _ ≠ _; omega
        replace DA : Hid (DgAt u1 (fun q => q = bG ∨ q = bJ) (.agg #[.slice aA tA.canon.nodes.length cA, .int .i64 tA.canon.root]) tA.canon) := DA.out.newer BX (fun q hq => by rcases hq with rfl | rfl <;> first | exact .inr (by omega) | (left; simp) )
        replace DG : Hid (DgAt u1 (fun q => q = bG ∨ q = bJ) (.agg #[.slice aG tG.canon.nodes.length cG, .int .i64 tG.canon.root]) tG.canon) := DG.out.newer BX (fun q hq => by rcases hq with rfl | rfl <;> first | exact .inr (by omega) | (left; simp) )
        replace XG := Lib.hid (heap_below BX XG.out)
        replace KS : Hid (u1.heap[bs]? = some (.cells #[.slice a0 xs.length c0, .int .u8 (N0 : Int), .slice a1 ys.length c1, .int .u8 (N1 : Int), .slice a2 zs.length c2, .int .u8 (N2 : Int)] 57 (0, 0))) := heap_below BX KS.out
        have XJ := Lib.hid hX
        replace BW := Lib.hid (BW.out.trans (BX.mono BW.out.size))
        go_simp
        clear hX BX eX hBX zX
        refine hK.out _ _ (box6v KS.out) (fun hS => ?_)
        clear hK K
        try simp only [Act.put, List.getElem_toArray, List.getElem_cons_zero, List.getElem_cons_succ, List.setIfInBounds_toArray, List.set_cons_zero, List.set_cons_succ]
        rw [← hG]
        exact st2_12.out u1 aA cA tA aG cG tG bG bJ BW KS DA OKA BLA DG OKG BLG XG NG XJ NJ NEGJ
    have st2_2 : Hid (∀ (u : World) (aA : Option Addr) (cA : Nat) (tA : T) (aG : Option Addr) (cG : Nat) (tG : T) (bJ : Nat), Hid (Below w.heap.size w u) → Hid (u.heap[bs]? = some (.cells #[.slice a0 xs.length c0, .int .u8 (N0 : Int), .slice a1 ys.length c1, .int .u8 (N1 : Int), .slice a2 zs.length c2, .int .u8 (N2 : Int)] 57 (0, 0))) → Hid (DgAt u (fun q => q = bJ) (.agg #[.slice aA tA.canon.nodes.length cA, .int .i64 tA.canon.root]) tA.canon) → Hid (tA.Ok) → Hid (tA.bel (N0 % 7)) → Hid (DgAt u (fun q => q = bJ) (.agg #[.slice aG tG.canon.nodes.length cG, .int .i64 tG.canon.root]) tG.canon) → Hid (tG.Ok) → Hid (tG.bel (N1 % 7)) → Hid (u.heap[bJ]? = some (.cells dg0 28 (0, 0))) → Hid (bs + 1 ≤ bJ) → G 6 #[true, true, true, true, true, true, true, true, false, false, false, true, false, false, false] ⟨((.agg #[.slice a0 xs.length c0, .int .u8 (N0 : Int), .slice a1 ys.length c1, .int .u8 (N1 : Int), .slice a2 zs.length c2, .int .u8 (N2 : Int)]) :: .int .u64 (q : Int) :: (.pointer (some ⟨bs, 0, none⟩)) :: undef :: .bool false :: .bool true :: undef :: undef :: (.pointer (some ⟨bJ, 0, none⟩)) :: undef :: undef :: undef :: undef :: undef :: undef :: undef :: undef :: undef :: undef :: undef :: undef :: undef :: undef :: undef :: undef :: .bool true :: (.pointer (some ⟨bs, 0, none⟩)) :: (.agg #[.slice a0 xs.length c0, .int .u8 (N0 : Int)]) :: (.agg #[.slice aA tA.canon.nodes.length cA, .int .i64 tA.canon.root]) :: (.pointer (some ⟨bs, 2, none⟩)) :: (.agg #[.slice a1 ys.length c1, .int .u8 (N1 : Int)]) :: (.agg #[.slice aG tG.canon.nodes.length cG, .int .i64 tG.canon.root]) :: (.pointer (some ⟨bs, 4, none⟩)) :: (.agg #[.slice a2 zs.length c2, .int .u8 (N2 : Int)]) :: undef :: undef :: undef :: undef :: undef :: undef :: undef :: undef :: undef :: undef :: undef :: undef :: undef :: undef :: undef :: undef :: undef :: undef :: undef :: undef :: undef :: undef :: undef :: undef :: undef :: undef :: undef :: undef :: undef :: undef :: undef :: undef :: undef :: undef :: undef :: undef :: undef :: undef :: undef :: undef :: undef :: undef :: undef :: undef :: undef :: undef :: undef :: undef :: undef :: undef :: undef :: undef :: undef :: undef :: undef :: undef :: undef :: undef :: undef :: undef :: undef :: undef :: undef :: undef :: undef :: undef :: undef :: undef :: undef :: undef :: undef :: undef :: undef :: undef :: undef :: undef :: undef :: undef :: undef :: undef :: undef :: undef :: undef :: undef :: undef :: undef :: undef :: undef :: undef :: undef :: undef :: undef :: undef :: undef :: undef :: undef :: undef :: undef :: undef :: undef :: undef :: undef :: undef :: undef :: undef :: undef :: undef :: undef :: undef :: undef :: []).toArray, []⟩ u) := by
      intro u aA cA tA aG cG tG bJ BW KS DA OKA BLA DG OKG BLG XJ NJ
      rw [hG]
      have hS : u.cell? ⟨bs, 0, none⟩ = some (.slice a0 xs.length c0) ∧ u.cell? ⟨bs, 1, none⟩ = some (.int .u8 (N0 : Int)) ∧ u.cell? ⟨bs, 2, none⟩ = some (.slice a1 ys.length c1) ∧ u.cell? ⟨bs, 3, none⟩ = some (.int .u8 (N1 : Int)) ∧ u.cell? ⟨bs, 4, none⟩ = some (.slice a2 zs.length c2) ∧ u.cell? ⟨bs, 5, none⟩ = some (.int .u8 (N2 : Int)) := box6v KS.out
      refine wpAnyH_ready (rs := [8, 9, 10]) (by kernel_rfl) (by simp) ?_
      refine AllReadyH.cons rfl (fun K hK => ?_) (AllReadyH.cons rfl (fun K hK => ?_) (AllReadyH.cons rfl (fun K hK => ?_) (AllReadyH.nil)))
      · try simp only [Act.put, List.getElem_toArray, List.getElem_cons_zero, List.getElem_cons_succ, List.setIfInBounds_toArray, List.set_cons_zero, List.set_cons_succ]
        go_simp
        refine (lmade_any u _ zs N2 (HS2.out.below BW.out)).mono ?_
        rintro e u1 ⟨⟨aJ, cJ, tJ, rfl, ok, bl, hM⟩, hb⟩
        have DJ := Lib.hid (hM (fun q => q = bJ) (fun q hq => by have h2 := heap_lt XJ.out; omega))
        have OKJ := Lib.hid ok; have BLJ := Lib.hid bl
        replace KS : Hid (u1.heap[bs]? = some (.cells #[.slice a0 xs.length c0, .int .u8 (N0 : Int), .slice a1 ys.length c1, .int .u8 (N1 : Int), .slice a2 zs.length c2, .int .u8 (N2 : Int)] 57 (0, 0))) := heap_below hb KS.out
        replace DA := Lib.hid (DA.out.below hb)
        replace DG := Lib.hid (DG.out.below hb)
        replace XJ := Lib.hid (heap_below hb XJ.out)
        replace BW := Lib.hid (BW.out.trans (hb.mono BW.out.size))
        clear hM hb ok bl
        refine hK.out _ _ (box6v KS.out) (fun hS => ?_)
        clear hK K
        try simp only [Act.put, List.getElem_toArray, List.getElem_cons_zero, List.getElem_cons_succ, List.setIfInBounds_toArray, List.set_cons_zero, List.set_cons_succ]
        rw [← hG]
        exact st3_2.out u1 aA cA tA aG cG tG aJ cJ tJ bJ BW KS DA OKA BLA DG OKG BLG DJ OKJ BLJ XJ NJ
      · try simp only [Act.put, List.getElem_toArray, List.getElem_cons_zero, List.getElem_cons_succ, List.setIfInBounds_toArray, List.set_cons_zero, List.set_cons_succ]
        obtain ⟨u1, bA, eX, hBX, zX, hX, BX⟩ := laid u dg0 28
        have NA : Hid (bs + 1 ≤ bA) := by show _ ≤ _; have := heap_lt KS.out; omega
        have NEAJ : Hid (bA ≠ bJ) := by have h := heap_lt XJ.out; show _ ≠ _; omega
        replace DA : Hid (DgAt u1 (fun q => q = bA ∨ q = bJ) (.agg #[.slice aA tA.canon.nodes.length cA, .int .i64 tA.canon.root]) tA.canon) := DA.out.newer BX (fun q hq => by rcases hq with rfl | rfl <;> first | exact .inr (by omega) | (left; simp) )
        replace DG : Hid (DgAt u1 (fun q => q = bA ∨ q = bJ) (.agg #[.slice aG tG.canon.nodes.length cG, .int .i64 tG.canon.root]) tG.canon) := DG.out.newer BX (fun q hq => by rcases hq with rfl | rfl <;> first | exact .inr (by omega) | (left; simp) )
        replace XJ := Lib.hid (heap_below BX XJ.out)
        replace KS : Hid (u1.heap[bs]? = some (.cells #[.slice a0 xs.length c0, .int .u8 (N0 : Int), .slice a1 ys.length c1, .int .u8 (N1 : Int), .slice a2 zs.length c2, .int .u8 (N2 : Int)] 57 (0, 0))) := heap_below BX KS.out
        have XA := Lib.hid hX
        replace BW := Lib.hid (BW.out.trans (BX.mono BW.out.size))
        go_simp
        clear hX BX eX hBX zX
        refine hK.out _ _ (box6v KS.out) (fun hS => ?_)
        clear hK K
        try simp only [Act.put, List.getElem_toArray, List.getElem_cons_zero, List.getElem_cons_succ, List.setIfInBounds_toArray, List.set_cons_zero, List.set_cons_succ]
        rw [← hG]
        exact st2_02.out u1 aA cA tA aG cG tG bA bJ BW KS DA OKA BLA DG OKG BLG XA NA XJ NJ NEAJ
      · try simp only [Act.put, List.getElem_toArray, List.getElem_cons_zero, List.getElem_cons_succ, List.setIfInBounds_toArray, List.set_cons_zero, List.set_cons_succ]
        obtain ⟨u1, bG, eX, hBX, zX, hX, BX⟩ := laid u dg0 28
        have NG : Hid (bs + 1 ≤ bG) := by show _ ≤ _; have := heap_lt KS.out; omega
        have NEGJ : Hid (bG ≠ bJ) := by have h := heap_lt XJ.out; show _ ≠ _; omega
        replace DA : Hid (DgAt u1 (fun q => q = bG ∨ q = bJ) (.agg #[.slice aA tA.canon.nodes.length cA, .int .i64 tA.canon.root]) tA.canon) := DA.out.newer BX (fun q hq => by rcases hq with rfl | rfl <;> first | exact .inr (by omega) | (left; simp) )
        replace DG : Hid (DgAt u1 (fun q => q = bG ∨ q = bJ) (.agg #[.slice aG tG.canon.nodes.length cG, .int .i64 tG.canon.root]) tG.canon) := DG.out.newer BX (fun q hq => by rcases hq with rfl | rfl <;> first | exact .inr (by omega) | (left; simp) )
        replace XJ := Lib.hid (heap_below BX XJ.out)
        replace KS : Hid (u1.heap[bs]? = some (.cells #[.slice a0 xs.length c0, .int .u8 (N0 : Int), .slice a1 ys.length c1, .int .u8 (N1 : Int), .slice a2 zs.length c2, .int .u8 (N2 : Int)] 57 (0, 0))) := heap_below BX KS.out
        have XG := Lib.hid hX
        replace BW := Lib.hid (BW.out.trans (BX.mono BW.out.size))
        go_simp
        clear hX BX eX hBX zX
        refine hK.out _ _ (box6v KS.out) (fun hS => ?_)
        clear hK K
        try simp only [Act.put, List.getElem_toArray, List.getElem_cons_zero, List.getElem_cons_succ, List.setIfInBounds_toArray, List.set_cons_zero, List.set_cons_succ]
        rw [← hG]
        exact st2_12.out u1 aA cA tA aG cG tG bG bJ BW KS DA OKA BLA DG OKG BLG XG NG XJ NJ NEGJ
    have st2_ : Hid (∀ (u : World) (aA : Option Addr) (cA : Nat) (tA : T) (aG : Option Addr) (cG : Nat) (tG : T), Hid (Below w.heap.size w u) → Hid (u.heap[bs]? = some (.cells #[.slice a0 xs.length c0, .int .u8 (N0 : Int), .slice a1 ys.length c1, .int .u8 (N1 : Int), .slice a2 zs.length c2, .int .u8 (N2 : Int)] 57 (0, 0))) → Hid (DgAt u NoB (.agg #[.slice aA tA.canon.nodes.length cA, .int .i64 tA.canon.root]) tA.canon) → Hid (tA.Ok) → Hid (tA.bel (N0 % 7)) → Hid (DgAt u NoB (.agg #[.slice aG tG.canon.nodes.length cG, .int .i64 tG.canon.root]) tG.canon) → Hid (tG.Ok) → Hid (tG.bel (N1 % 7)) → G 7 #[true, true, true, true, true, true, true, true, false, false, false, false, false, false, false] ⟨((.agg #[.slice a0 xs.length c0, .int .u8 (N0 : Int), .slice a1 ys.length c1, .int .u8 (N1 : Int), .slice a2 zs.length c2, .int .u8 (N2 : Int)]) :: .int .u64 (q : Int) :: (.pointer (some ⟨bs, 0, none⟩)) :: undef :: .bool false :: .bool true :: undef :: undef :: undef :: undef :: undef :: undef :: undef :: undef :: undef :: undef :: undef :: undef :: undef :: undef :: undef :: undef :: undef :: undef :: undef :: .bool true :: (.pointer (some ⟨bs, 0, none⟩)) :: (.agg #[.slice a0 xs.length c0, .int .u8 (N0 : Int)]) :: (.agg #[.slice aA tA.canon.nodes.length cA, .int .i64 tA.canon.root]) :: (.pointer (some ⟨bs, 2, none⟩)) :: (.agg #[.slice a1 ys.length c1, .int .u8 (N1 : Int)]) :: (.agg #[.slice aG tG.canon.nodes.length cG, .int .i64 tG.canon.root]) :: (.pointer (some ⟨bs, 4, none⟩)) :: (.agg #[.slice a2 zs.length c2, .int .u8 (N2 : Int)]) :: undef :: undef :: undef :: undef :: undef :: undef :: undef :: undef :: undef :: undef :: undef :: undef :: undef :: undef :: undef :: undef :: undef :: undef :: undef :: undef :: undef :: undef :: undef :: undef :: undef :: undef :: undef :: undef :: undef :: undef :: undef :: undef :: undef :: undef :: undef :: undef :: undef :: undef :: undef :: undef :: undef :: undef :: undef :: undef :: undef :: undef :: undef :: undef :: undef :: undef :: undef :: undef :: undef :: undef :: undef :: undef :: undef :: undef :: undef :: undef :: undef :: undef :: undef :: undef :: undef :: undef :: undef :: undef :: undef :: undef :: undef :: undef :: undef :: undef :: undef :: undef :: undef :: undef :: undef :: undef :: undef :: undef :: undef :: undef :: undef :: undef :: undef :: undef :: undef :: undef :: undef :: undef :: undef :: undef :: undef :: undef :: undef :: undef :: undef :: undef :: undef :: undef :: undef :: undef :: undef :: undef :: undef :: undef :: undef :: undef :: []).toArray, []⟩ u) := by
      intro u aA cA tA aG cG tG BW KS DA OKA BLA DG OKG BLG
      rw [hG]
      have hS : u.cell? ⟨bs, 0, none⟩ = some (.slice a0 xs.length c0) ∧ u.cell? ⟨bs, 1, none⟩ = some (.int .u8 (N0 : Int)) ∧ u.cell? ⟨bs, 2, none⟩ = some (.slice a1 ys.length c1) ∧ u.cell? ⟨bs, 3, none⟩ = some (.int .u8 (N1 : Int)) ∧ u.cell? ⟨bs, 4, none⟩ = some (.slice a2 zs.length c2) ∧ u.cell? ⟨bs, 5, none⟩ = some (.int .u8 (N2 : Int)) := box6v KS.out
      refine wpAnyH_ready (rs := [8, 9, 10, 11]) (by kernel_rfl) (by simp) ?_
      refine AllReadyH.cons rfl (fun K hK => ?_) (AllReadyH.cons rfl (fun K hK => ?_) (AllReadyH.cons rfl (fun K hK => ?_) (AllReadyH.cons rfl (fun K hK => ?_) (AllReadyH.nil))))
      · try simp only [Act.put, List.getElem_toArray, List.getElem_cons_zero, List.getElem_cons_succ, List.setIfInBounds_toArray, List.set_cons_zero, List.set_cons_succ]
        go_simp
        refine (lmade_any u _ zs N2 (HS2.out.below BW.out)).mono ?_
        rintro e u1 ⟨⟨aJ, cJ, tJ, rfl, ok, bl, hM⟩, hb⟩
        have DJ := Lib.hid (hM NoB (fun q hq => hq.elim))
        have OKJ := Lib.hid ok; have BLJ := Lib.hid bl
        replace KS : Hid (u1.heap[bs]? = some (.cells #[.slice a0 xs.length c0, .int .u8 (N0 : Int), .slice a1 ys.length c1, .int .u8 (N1 : Int), .slice a2 zs.length c2, .int .u8 (N2 : Int)] 57 (0, 0))) := heap_below hb KS.out
        replace DA := Lib.hid (DA.out.below hb)
        replace DG := Lib.hid (DG.out.below hb)
        replace BW := Lib.hid (BW.out.trans (hb.mono BW.out.size))
        clear hM hb ok bl
        refine hK.out _ _ (box6v KS.out) (fun hS => ?_)
        clear hK K
        try simp only [Act.put, List.getElem_toArray, List.getElem_cons_zero, List.getElem_cons_succ, List.setIfInBounds_toArray, List.set_cons_zero, List.set_cons_succ]
        rw [← hG]
        exact st3_.out u1 aA cA tA aG cG tG aJ cJ tJ BW KS DA OKA BLA DG OKG BLG DJ OKJ BLJ
      · try simp only [Act.put, List.getElem_toArray, List.getElem_cons_zero, List.getElem_cons_succ, List.setIfInBounds_toArray, List.set_cons_zero, List.set_cons_succ]
        obtain ⟨u1, bA, eX, hBX, zX, hX, BX⟩ := laid u dg0 28
        have NA : Hid (bs + 1 ≤ bA) := by show _ ≤ _; have := heap_lt KS.out; omega
        replace DA : Hid (DgAt u1 (fun q => q = bA) (.agg #[.slice aA tA.canon.nodes.length cA, .int .i64 tA.canon.root]) tA.canon) := DA.out.newer BX (fun q hq => .inr (by rw [hq]; omega))
        replace DG : Hid (DgAt u1 (fun q => q = bA) (.agg #[.slice aG tG.canon.nodes.length cG, .int .i64 tG.canon.root]) tG.canon) := DG.out.newer BX (fun q hq => .inr (by rw [hq]; omega))
        replace KS : Hid (u1.heap[bs]? = some (.cells #[.slice a0 xs.length c0, .int .u8 (N0 : Int), .slice a1 ys.length c1, .int .u8 (N1 : Int), .slice a2 zs.length c2, .int .u8 (N2 : Int)] 57 (0, 0))) := heap_below BX KS.out
        have XA := Lib.hid hX
        replace BW := Lib.hid (BW.out.trans (BX.mono BW.out.size))
        go_simp
        clear hX BX eX hBX zX
        refine hK.out _ _ (box6v KS.out) (fun hS => ?_)
        clear hK K
        try simp only [Act.put, List.getElem_toArray, List.getElem_cons_zero, List.getElem_cons_succ, List.setIfInBounds_toArray, List.set_cons_zero, List.set_cons_succ]
        rw [← hG]
        exact st2_0.out u1 aA cA tA aG cG tG bA BW KS DA OKA BLA DG OKG BLG XA NA
      · try simp only [Act.put, List.getElem_toArray, List.getElem_cons_zero, List.getElem_cons_succ, List.setIfInBounds_toArray, List.set_cons_zero, List.set_cons_succ]
        obtain ⟨u1, bG, eX, hBX, zX, hX, BX⟩ := laid u dg0 28
        have NG : Hid (bs + 1 ≤ bG) := by show _ ≤ _; have := heap_lt KS.out; omega
        replace DA : Hid (DgAt u1 (fun q => q = bG) (.agg #[.slice aA tA.canon.nodes.length cA, .int .i64 tA.canon.root]) tA.canon) := DA.out.newer BX (fun q hq => .inr (by rw [hq]; omega))
        replace DG : Hid (DgAt u1 (fun q => q = bG) (.agg #[.slice aG tG.canon.nodes.length cG, .int .i64 tG.canon.root]) tG.canon) := DG.out.newer BX (fun q hq => .inr (by rw [hq]; omega))
        replace KS : Hid (u1.heap[bs]? = some (.cells #[.slice a0 xs.length c0, .int .u8 (N0 : Int), .slice a1 ys.length c1, .int .u8 (N1 : Int), .slice a2 zs.length c2, .int .u8 (N2 : Int)] 57 (0, 0))) := heap_below BX KS.out
        have XG := Lib.hid hX
        replace BW := Lib.hid (BW.out.trans (BX.mono BW.out.size))
        go_simp
        clear hX BX eX hBX zX
        refine hK.out _ _ (box6v KS.out) (fun hS => ?_)
        clear hK K
        try simp only [Act.put, List.getElem_toArray, List.getElem_cons_zero, List.getElem_cons_succ, List.setIfInBounds_toArray, List.set_cons_zero, List.set_cons_succ]
        rw [← hG]
        exact st2_1.out u1 aA cA tA aG cG tG bG BW KS DA OKA BLA DG OKG BLG XG NG
      · try simp only [Act.put, List.getElem_toArray, List.getElem_cons_zero, List.getElem_cons_succ, List.setIfInBounds_toArray, List.set_cons_zero, List.set_cons_succ]
        obtain ⟨u1, bJ, eX, hBX, zX, hX, BX⟩ := laid u dg0 28
        have NJ : Hid (bs + 1 ≤ bJ) := by show _ ≤ _; have := heap_lt KS.out; omega
        replace DA : Hid (DgAt u1 (fun q => q = bJ) (.agg #[.slice aA tA.canon.nodes.length cA, .int .i64 tA.canon.root]) tA.canon) := DA.out.newer BX (fun q hq => .inr (by rw [hq]; omega))
        replace DG : Hid (DgAt u1 (fun q => q = bJ) (.agg #[.slice aG tG.canon.nodes.length cG, .int .i64 tG.canon.root]) tG.canon) := DG.out.newer BX (fun q hq => .inr (by rw [hq]; omega))
        replace KS : Hid (u1.heap[bs]? = some (.cells #[.slice a0 xs.length c0, .int .u8 (N0 : Int), .slice a1 ys.length c1, .int .u8 (N1 : Int), .slice a2 zs.length c2, .int .u8 (N2 : Int)] 57 (0, 0))) := heap_below BX KS.out
        have XJ := Lib.hid hX
        replace BW := Lib.hid (BW.out.trans (BX.mono BW.out.size))
        go_simp
        clear hX BX eX hBX zX
        refine hK.out _ _ (box6v KS.out) (fun hS => ?_)
        clear hK K
        try simp only [Act.put, List.getElem_toArray, List.getElem_cons_zero, List.getElem_cons_succ, List.setIfInBounds_toArray, List.set_cons_zero, List.set_cons_succ]
        rw [← hG]
        exact st2_2.out u1 aA cA tA aG cG tG bJ BW KS DA OKA BLA DG OKG BLG XJ NJ
    have st1_012 : Hid (∀ (u : World) (aA : Option Addr) (cA : Nat) (tA : T) (bA : Nat) (bG : Nat) (bJ : Nat), Hid (Below w.heap.size w u) → Hid (u.heap[bs]? = some (.cells #[.slice a0 xs.length c0, .int .u8 (N0 : Int), .slice a1 ys.length c1, .int .u8 (N1 : Int), .slice a2 zs.length c2, .int .u8 (N2 : Int)] 57 (0, 0))) → Hid (DgAt u (fun q => q = bA ∨ q = bG ∨ q = bJ) (.agg #[.slice aA tA.canon.nodes.length cA, .int .i64 tA.canon.root]) tA.canon) → Hid (tA.Ok) → Hid (tA.bel (N0 % 7)) → Hid (u.heap[bA]? = some (.cells dg0 28 (0, 0))) → Hid (bs + 1 ≤ bA) → Hid (u.heap[bG]? = some (.cells dg0 28 (0, 0))) → Hid (bs + 1 ≤ bG) → Hid (u.heap[bJ]? = some (.cells dg0 28 (0, 0))) → Hid (bs + 1 ≤ bJ) → Hid (bA ≠ bG) → Hid (bA ≠ bJ) → Hid (bG ≠ bJ) → G 5 #[true, true, true, true, true, false, true, true, false, true, true, true, false, false, false] ⟨((.agg #[.slice a0 xs.length c0, .int .u8 (N0 : Int), .slice a1 ys.length c1, .int .u8 (N1 : Int), .slice a2 zs.length c2, .int .u8 (N2 : Int)]) :: .int .u64 (q : Int) :: (.pointer (some ⟨bs, 0, none⟩)) :: undef :: .bool false :: .bool true :: (.pointer (some ⟨bA, 0, none⟩)) :: (.pointer (some ⟨bG, 0, none⟩)) :: (.pointer (some ⟨bJ, 0, none⟩)) :: undef :: undef :: undef :: undef :: undef :: undef :: undef :: undef :: undef :: undef :: undef :: undef :: undef :: undef :: undef :: undef :: .bool true :: (.pointer (some ⟨bs, 0, none⟩)) :: (.agg #[.slice a0 xs.length c0, .int .u8 (N0 : Int)]) :: (.agg #[.slice aA tA.canon.nodes.length cA, .int .i64 tA.canon.root]) :: (.pointer (some ⟨bs, 2, none⟩)) :: (.agg #[.slice a1 ys.length c1, .int .u8 (N1 : Int)]) :: undef :: (.pointer (some ⟨bs, 4, none⟩)) :: (.agg #[.slice a2 zs.length c2, .int .u8 (N2 : Int)]) :: undef :: undef :: undef :: undef :: undef :: undef :: undef :: undef :: undef :: undef :: undef :: undef :: undef :: undef :: undef :: undef :: undef :: undef :: undef :: undef :: undef :: undef :: undef :: undef :: undef :: undef :: undef :: undef :: undef :: undef :: undef :: undef :: undef :: undef :: undef :: undef :: undef :: undef :: undef :: undef :: undef :: undef :: undef :: undef :: undef :: undef :: undef :: undef :: undef :: undef :: undef :: undef :: undef :: undef :: undef :: undef :: undef :: undef :: undef :: undef :: undef :: undef :: undef :: undef :: undef :: undef :: undef :: undef :: undef :: undef :: undef :: undef :: undef :: undef :: undef :: undef :: undef :: undef :: undef :: undef :: undef :: undef :: undef :: undef :: undef :: undef :: undef :: undef :: undef :: undef :: undef :: undef :: undef :: undef :: undef :: undef :: undef :: undef :: undef :: undef :: undef :: undef :: undef :: undef :: undef :: undef :: undef :: undef :: undef :: undef :: []).toArray, []⟩ u) := by
      intro u aA cA tA bA bG bJ BW KS DA OKA BLA XA NA XG NG XJ NJ NEAG NEAJ NEGJ
      rw [hG]
      have hS : u.cell? ⟨bs, 0, none⟩ = some (.slice a0 xs.length c0) ∧ u.cell? ⟨bs, 1, none⟩ = some (.int .u8 (N0 : Int)) ∧ u.cell? ⟨bs, 2, none⟩ = some (.slice a1 ys.length c1) ∧ u.cell? ⟨bs, 3, none⟩ = some (.int .u8 (N1 : Int)) ∧ u.cell? ⟨bs, 4, none⟩ = some (.slice a2 zs.length c2) ∧ u.cell? ⟨bs, 5, none⟩ = some (.int .u8 (N2 : Int)) := box6v KS.out
      refine wpAnyH_ready (rs := [5]) (by kernel_rfl) (by simp) ?_
      refine AllReadyH.cons rfl (fun K hK => ?_) (AllReadyH.nil)
      · try simp only [Act.put, List.getElem_toArray, List.getElem_cons_zero, List.getElem_cons_succ, List.setIfInBounds_toArray, List.set_cons_zero, List.set_cons_succ]
        go_simp
        refine (lmade_any u _ ys N1 (HS1.out.below BW.out)).mono ?_
        rintro e u1 ⟨⟨aG, cG, tG, rfl, ok, bl, hM⟩, hb⟩
        have DG := Lib.hid (hM (fun q => q = bA ∨ q = bG ∨ q = bJ) (fun q hq => by have h0 := heap_lt XA.out; have h1 := heap_lt XG.out; have h2 := heap_lt XJ.out; omega))
        have OKG := Lib.hid ok; have BLG := Lib.hid bl
        replace KS : Hid (u1.heap[bs]? = some (.cells #[.slice a0 xs.length c0, .int .u8 (N0 : Int), .slice a1 ys.length c1, .int .u8 (N1 : Int), .slice a2 zs.length c2, .int .u8 (N2 : Int)] 57 (0, 0))) := heap_below hb KS.out
        replace DA := Lib.hid (DA.out.below hb)
        replace XA := Lib.hid (heap_below hb XA.out)
        replace XG := Lib.hid (heap_below hb XG.out)
        replace XJ := Lib.hid (heap_below hb XJ.out)
        replace BW := Lib.hid (BW.out.trans (hb.mono BW.out.size))
        clear hM hb ok bl
        refine hK.out _ _ (box6v KS.out) (fun hS => ?_)
        clear hK K
        try simp only [Act.put, List.getElem_toArray, List.getElem_cons_zero, List.getElem_cons_succ, List.setIfInBounds_toArray, List.set_cons_zero, List.set_cons_succ]
        rw [← hG]
        exact st2_012.out u1 aA cA tA aG cG tG bA bG bJ BW KS DA OKA BLA DG OKG BLG XA NA XG NG XJ NJ NEAG NEAJ NEGJ
    have st1_01 : Hid (∀ (u : World) (aA : Option Addr) (cA : Nat) (tA : T) (bA : Nat) (bG : Nat), Hid (Below w.heap.size w u) → Hid (u.heap[bs]? = some (.cells #[.slice a0 xs.length c0, .int .u8 (N0 : Int), .slice a1 ys.length c1, .int .u8 (N1 : Int), .slice a2 zs.length c2, .int .u8 (N2 : Int)] 57 (0, 0))) → Hid (DgAt u (fun q => q = bA ∨ q = bG) (.agg #[.slice aA tA.canon.nodes.length cA, .int .i64 tA.canon.root]) tA.canon) → Hid (tA.Ok) → Hid (tA.bel (N0 % 7)) → Hid (u.heap[bA]? = some (.cells dg0 28 (0, 0))) → Hid (bs + 1 ≤ bA) → Hid (u.heap[bG]? = some (.cells dg0 28 (0, 0))) → Hid (bs + 1 ≤ bG) → Hid (bA ≠ bG) → G 6 #[true, true, true, true, true, false, true, true, false, true, true, false, false, false, false] ⟨((.agg #[.slice a0 xs.length c0, .int .u8 (N0 : Int), .slice a1 ys.length c1, .int .u8 (N1 : Int), .slice a2 zs.length c2, .int .u8 (N2 : Int)]) :: .int .u64 (q : Int) :: (.pointer (some ⟨bs, 0, none⟩)) :: undef :: .bool false :: .bool true :: (.pointer (some ⟨bA, 0, none⟩)) :: (.pointer (some ⟨bG, 0, none⟩)) :: undef :: undef :: undef :: undef :: undef :: undef :: undef :: undef :: undef :: undef :: undef :: undef :: undef :: undef :: undef :: undef :: undef :: .bool true :: (.pointer (some ⟨bs, 0, none⟩)) :: (.agg #[.slice a0 xs.length c0, .int .u8 (N0 : Int)]) :: (.agg #[.slice aA tA.canon.nodes.length cA, .int .i64 tA.canon.root]) :: (.pointer (some ⟨bs, 2, none⟩)) :: (.agg #[.slice a1 ys.length c1, .int .u8 (N1 : Int)]) :: undef :: (.pointer (some ⟨bs, 4, none⟩)) :: (.agg #[.slice a2 zs.length c2, .int .u8 (N2 : Int)]) :: undef :: undef :: undef :: undef :: undef :: undef :: undef :: undef :: undef :: undef :: undef :: undef :: undef :: undef :: undef :: undef :: undef :: undef :: undef :: undef :: undef :: undef :: undef :: undef :: undef :: undef :: undef :: undef :: undef :: undef :: undef :: undef :: undef :: undef :: undef :: undef :: undef :: undef :: undef :: undef :: undef :: undef :: undef :: undef :: undef :: undef :: undef :: undef :: undef :: undef :: undef :: undef :: undef :: undef :: undef :: undef :: undef :: undef :: undef :: undef :: undef :: undef :: undef :: undef :: undef :: undef :: undef :: undef :: undef :: undef :: undef :: undef :: undef :: undef :: undef :: undef :: undef :: undef :: undef :: undef :: undef :: undef :: undef :: undef :: undef :: undef :: undef :: undef :: undef :: undef :: undef :: undef :: undef :: undef :: undef :: undef :: undef :: undef :: undef :: undef :: undef :: undef :: undef :: undef :: undef :: undef :: undef :: undef :: undef :: undef :: []).toArray, []⟩ u) := by
      intro u aA cA tA bA bG BW KS DA OKA BLA XA NA XG NG NEAG
      rw [hG]
      have hS : u.cell? ⟨bs, 0, none⟩ = some (.slice a0 xs.length c0) ∧ u.cell? ⟨bs, 1, none⟩ = some (.int .u8 (N0 : Int)) ∧ u.cell? ⟨bs, 2, none⟩ = some (.slice a1 ys.length c1) ∧ u.cell? ⟨bs, 3, none⟩ = some (.int .u8 (N1 : Int)) ∧ u.cell? ⟨bs, 4, none⟩ = some (.slice a2 zs.length c2) ∧ u.cell? ⟨bs, 5, none⟩ = some (.int .u8 (N2 : Int)) := box6v KS.out
      refine wpAnyH_ready (rs := [5, 11]) (by kernel_rfl) (by simp) ?_
      refine AllReadyH.cons rfl (fun K hK => ?_) (AllReadyH.cons rfl (fun K hK => ?_) (AllReadyH.nil))
      · try simp only [Act.put, List.getElem_toArray, List.getElem_cons_zero, List.getElem_cons_succ, List.setIfInBounds_toArray, List.set_cons_zero, List.set_cons_succ]
        go_simp
        refine (lmade_any u _ ys N1 (HS1.out.below BW.out)).mono ?_
        rintro e u1 ⟨⟨aG, cG, tG, rfl, ok, bl, hM⟩, hb⟩
        have DG := Lib.hid (hM (fun q => q = bA ∨ q = bG) (fun q hq => by have h0 := heap_lt XA.out; have h1 := heap_lt XG.out; omega))
        have OKG := Lib.hid ok; have BLG := Lib.hid bl
        replace KS : Hid (u1.heap[bs]? = some (.cells #[.slice a0 xs.length c0, .int .u8 (N0 : Int), .slice a1 ys.length c1, .int .u8 (N1 : Int), .slice a2 zs.length c2, .int .u8 (N2 : Int)] 57 (0, 0))) := heap_below hb KS.out
        replace DA := Lib.hid (DA.out.below hb)
        replace XA := Lib.hid (heap_below hb XA.out)
        replace XG := Lib.hid (heap_below hb XG.out)
        replace BW := Lib.hid (BW.out.trans (hb.mono BW.out.size))
        clear hM hb ok bl
        refine hK.out _ _ (box6v KS.out) (fun hS => ?_)
        clear hK K
        try simp only [Act.put, List.getElem_toArray, List.getElem_cons_zero, List.getElem_cons_succ, List.setIfInBounds_toArray, List.set_cons_zero, List.set_cons_succ]
        rw [← hG]
        exact st2_01.out u1 aA cA tA aG cG tG bA bG BW KS DA OKA BLA DG OKG BLG XA NA XG NG NEAG
      · try simp only [Act.put, List.getElem_toArray, List.getElem_cons_zero, List.getElem_cons_succ, List.setIfInBounds_toArray, List.set_cons_zero, List.set_cons_succ]
        obtain ⟨u1, bJ, eX, hBX, zX, hX, BX⟩ := laid u dg0 28
        have NJ : Hid (bs + 1 ≤ bJ) := by show _ ≤ _; have := heap_lt KS.out; omega
        have NEAJ : Hid (bA ≠ bJ) := by have h := heap_lt XA.out; show _ ≠ _; omega
        have NEGJ : Hid (bG ≠ bJ) := by have h := heap_lt XG.out; show _ ≠ _; omega
        replace DA : Hid (DgAt u1 (fun q => q = bA ∨ q = bG ∨ q = bJ) (.agg #[.slice aA tA.canon.nodes.length cA, .int .i64 tA.canon.root]) tA.canon) := DA.out.newer BX (fun q hq => by rcases hq with rfl | rfl | rfl <;> first | exact .inr (by omega) | (left; simp) )
        replace XA := Lib.hid (heap_below BX XA.out)
        replace XG := Lib.hid (heap_below BX XG.out)
        replace KS : Hid (u1.heap[bs]? = some (.cells #[.slice a0 xs.length c0, .int .u8 (N0 : Int), .slice a1 ys.length c1, .int .u8 (N1 : Int), .slice a2 zs.length c2, .int .u8 (N2 : Int)] 57 (0, 0))) := heap_below BX KS.out
        have XJ := Lib.hid hX
        replace BW := Lib.hid (BW.out.trans (BX.mono BW.out.size))
        go_simp
        clear hX BX eX hBX zX
        refine hK.out _ _ (box6v KS.out) (fun hS => ?_)
        clear hK K
        try simp only [Act.put, List.getElem_toArray, List.getElem_cons_zero, List.getElem_cons_succ, List.setIfInBounds_toArray, List.set_cons_zero, List.set_cons_succ]
        rw [← hG]
        exact st1_012.out u1 aA cA tA bA bG bJ BW KS DA OKA BLA XA NA XG NG XJ NJ NEAG NEAJ NEGJ
    have st1_02 : Hid (∀ (u : World) (aA : Option Addr) (cA : Nat) (tA : T) (bA : Nat) (bJ : Nat), Hid (Below w.heap.size w u) → Hid (u.heap[bs]? = some (.cells #[.slice a0 xs.length c0, .int .u8 (N0 : Int), .slice a1 ys.length c1, .int .u8 (N1 : Int), .slice a2 zs.length c2, .int .u8 (N2 : Int)] 57 (0, 0))) → Hid (DgAt u (fun q => q = bA ∨ q = bJ) (.agg #[.slice aA tA.canon.nodes.length cA, .int .i64 tA.canon.root]) tA.canon) → Hid (tA.Ok) → Hid (tA.bel (N0 % 7)) → Hid (u.heap[bA]? = some (.cells dg0 28 (0, 0))) → Hid (bs + 1 ≤ bA) → Hid (u.heap[bJ]? = some (.cells dg0 28 (0, 0))) → Hid (bs + 1 ≤ bJ) → Hid (bA ≠ bJ) → G 6 #[true, true, true, true, true, false, true, true, false, true, false, true, false, false, false] ⟨((.agg #[.slice a0 xs.length c0, .int .u8 (N0 : Int), .slice a1 ys.length c1, .int .u8 (N1 : Int), .slice a2 zs.length c2, .int .u8 (N2 : Int)]) :: .int .u64 (q : Int) :: (.pointer (some ⟨bs, 0, none⟩)) :: undef :: .bool false :: .bool true :: (.pointer (some ⟨bA, 0, none⟩)) :: undef :: (.pointer (some ⟨bJ, 0, none⟩)) :: undef :: undef :: undef :: undef :: undef :: undef :: undef :: undef :: undef :: undef :: undef :: undef :: undef :: undef :: undef :: undef :: .bool true :: (.pointer (some ⟨bs, 0, none⟩)) :: (.agg #[.slice a0 xs.length c0, .int .u8 (N0 : Int)]) :: (.agg #[.slice aA tA.canon.nodes.length cA, .int .i64 tA.canon.root]) :: (.pointer (some ⟨bs, 2, none⟩)) :: (.agg #[.slice a1 ys.length c1, .int .u8 (N1 : Int)]) :: undef :: (.pointer (some ⟨bs, 4, none⟩)) :: (.agg #[.slice a2 zs.length c2, .int .u8 (N2 : Int)]) :: undef :: undef :: undef :: undef :: undef :: undef :: undef :: undef :: undef :: undef :: undef :: undef :: undef :: undef :: undef :: undef :: undef :: undef :: undef :: undef :: undef :: undef :: undef :: undef :: undef :: undef :: undef :: undef :: undef :: undef :: undef :: undef :: undef :: undef :: undef :: undef :: undef :: undef :: undef :: undef :: undef :: undef :: undef :: undef :: undef :: undef :: undef :: undef :: undef :: undef :: undef :: undef :: undef :: undef :: undef :: undef :: undef :: undef :: undef :: undef :: undef :: undef :: undef :: undef :: undef :: undef :: undef :: undef :: undef :: undef :: undef :: undef :: undef :: undef :: undef :: undef :: undef :: undef :: undef :: undef :: undef :: undef :: undef :: undef :: undef :: undef :: undef :: undef :: undef :: undef :: undef :: undef :: undef :: undef :: undef :: undef :: undef :: undef :: undef :: undef :: undef :: undef :: undef :: undef :: undef :: undef :: undef :: undef :: undef :: undef :: []).toArray, []⟩ u) := by
      intro u aA cA tA bA bJ BW KS DA OKA BLA XA NA XJ NJ NEAJ
      rw [hG]
      have hS : u.cell? ⟨bs, 0, none⟩ = some (.slice a0 xs.length c0) ∧ u.cell? ⟨bs, 1, none⟩ = some (.int .u8 (N0 : Int)) ∧ u.cell? ⟨bs, 2, none⟩ = some (.slice a1 ys.length c1) ∧ u.cell? ⟨bs, 3, none⟩ = some (.int .u8 (N1 : Int)) ∧ u.cell? ⟨bs, 4, none⟩ = some (.slice a2 zs.length c2) ∧ u.cell? ⟨bs, 5, none⟩ = some (.int .u8 (N2 : Int)) := box6v KS.out
      refine wpAnyH_ready (rs := [5, 10]) (by kernel_rfl) (by simp) ?_
      refine AllReadyH.cons rfl (fun K hK => ?_) (AllReadyH.cons rfl (fun K hK => ?_) (AllReadyH.nil))
      · try simp only [Act.put, List.getElem_toArray, List.getElem_cons_zero, List.getElem_cons_succ, List.setIfInBounds_toArray, List.set_cons_zero, List.set_cons_succ]
        go_simp
        refine (lmade_any u _ ys N1 (HS1.out.below BW.out)).mono ?_
        rintro e u1 ⟨⟨aG, cG, tG, rfl, ok, bl, hM⟩, hb⟩
        have DG := Lib.hid (hM (fun q => q = bA ∨ q = bJ) (fun q hq => by have h0 := heap_lt XA.out; have h2 := heap_lt XJ.out; omega))
        have OKG := Lib.hid ok; have BLG := Lib.hid bl
        replace KS : Hid (u1.heap[bs]? = some (.cells #[.slice a0 xs.length c0, .int .u8 (N0 : Int), .slice a1 ys.length c1, .int .u8 (N1 : Int), .slice a2 zs.length c2, .int .u8 (N2 : Int)] 57 (0, 0))) := heap_below hb KS.out
        replace DA := Lib.hid (DA.out.below hb)
        replace XA := Lib.hid (heap_below hb XA.out)
        replace XJ := Lib.hid (heap_below hb XJ.out)
        replace BW := Lib.hid (BW.out.trans (hb.mono BW.out.size))
        clear hM hb ok bl
        refine hK.out _ _ (box6v KS.out) (fun hS => ?_)
        clear hK K
        try simp only [Act.put, List.getElem_toArray, List.getElem_cons_zero, List.getElem_cons_succ, List.setIfInBounds_toArray, List.set_cons_zero, List.set_cons_succ]
        rw [← hG]
        exact st2_02.out u1 aA cA tA aG cG tG bA bJ BW KS DA OKA BLA DG OKG BLG XA NA XJ NJ NEAJ
      · try simp only [Act.put, List.getElem_toArray, List.getElem_cons_zero, List.getElem_cons_succ, List.setIfInBounds_toArray, List.set_cons_zero, List.set_cons_succ]
        obtain ⟨u1, bG, eX, hBX, zX, hX, BX⟩ := laid u dg0 28
        have NG : Hid (bs + 1 ≤ bG) := by show _ ≤ _; have := heap_lt KS.out; omega
        have NEAG : Hid (bA ≠ bG) := by have h := heap_lt XA.out; show _ ≠ _; omega
        have NEGJ : Hid (bG ≠ bJ) := by have h := heap_lt XJ.out; show _ ≠ _; omega
        replace DA : Hid (DgAt u1 (fun q => q = bA ∨ q = bG ∨ q = bJ) (.agg #[.slice aA tA.canon.nodes.length cA, .int .i64 tA.canon.root]) tA.canon) := DA.out.newer BX (fun q hq => by rcases hq with rfl | rfl | rfl <;> first | exact .inr (by omega) | (left; simp) )
        replace XA := Lib.hid (heap_below BX XA.out)
        replace XJ := Lib.hid (heap_below BX XJ.out)
        replace KS : Hid (u1.heap[bs]? = some (.cells #[.slice a0 xs.length c0, .int .u8 (N0 : Int), .slice a1 ys.length c1, .int .u8 (N1 : Int), .slice a2 zs.length c2, .int .u8 (N2 : Int)] 57 (0, 0))) := heap_below BX KS.out
        have XG := Lib.hid hX
        replace BW := Lib.hid (BW.out.trans (BX.mono BW.out.size))
        go_simp
        clear hX BX eX hBX zX
        refine hK.out _ _ (box6v KS.out) (fun hS => ?_)
        clear hK K
        try simp only [Act.put, List.getElem_toArray, List.getElem_cons_zero, List.getElem_cons_succ, List.setIfInBounds_toArray, List.set_cons_zero, List.set_cons_succ]
        rw [← hG]
        exact st1_012.out u1 aA cA tA bA bG bJ BW KS DA OKA BLA XA NA XG NG XJ NJ NEAG NEAJ NEGJ
    have st1_12 : Hid (∀ (u : World) (aA : Option Addr) (cA : Nat) (tA : T) (bG : Nat) (bJ : Nat), Hid (Below w.heap.size w u) → Hid (u.heap[bs]? = some (.cells #[.slice a0 xs.length c0, .int .u8 (N0 : Int), .slice a1 ys.length c1, .int .u8 (N1 : Int), .slice a2 zs.length c2, .int .u8 (N2 : Int)] 57 (0, 0))) → Hid (DgAt u (fun q => q = bG ∨ q = bJ) (.agg #[.slice aA tA.canon.nodes.length cA, .int .i64 tA.canon.root]) tA.canon) → Hid (tA.Ok) → Hid (tA.bel (N0 % 7)) → Hid (u.heap[bG]? = some (.cells dg0 28 (0, 0))) → Hid (bs + 1 ≤ bG) → Hid (u.heap[bJ]? = some (.cells dg0 28 (0, 0))) → Hid (bs + 1 ≤ bJ) → Hid (bG ≠ bJ) → G 6 #[true, true, true, true, true, false, true, true, false, false, true, true, false, false, false] ⟨((.agg #[.slice a0 xs.length c0, .int .u8 (N0 : Int), .slice a1 ys.length c1, .int .u8 (N1 : Int), .slice a2 zs.length c2, .int .u8 (N2 : Int)]) :: .int .u64 (q : Int) :: (.pointer (some ⟨bs, 0, none⟩)) :: undef :: .bool false :: .bool true :: undef :: (.pointer (some ⟨bG, 0, none⟩)) :: (.pointer (some ⟨bJ, 0, none⟩)) :: undef :: undef :: undef :: undef :: undef :: undef :: undef :: undef :: undef :: undef :: undef :: undef :: undef :: undef :: undef :: undef :: .bool true :: (.pointer (some ⟨bs, 0, none⟩)) :: (.agg #[.slice a0 xs.length c0, .int .u8 (N0 : Int)]) :: (.agg #[.slice aA tA.canon.nodes.length cA, .int .i64 tA.canon.root]) :: (.pointer (some ⟨bs, 2, none⟩)) :: (.agg #[.slice a1 ys.length c1, .int .u8 (N1 : Int)]) :: undef :: (.pointer (some ⟨bs, 4, none⟩)) :: (.agg #[.slice a2 zs.length c2, .int .u8 (N2 : Int)]) :: undef :: undef :: undef :: undef :: undef :: undef :: undef :: undef :: undef :: undef :: undef :: undef :: undef :: undef :: undef :: undef :: undef :: undef :: undef :: undef :: undef :: undef :: undef :: undef :: undef :: undef :: undef :: undef :: undef :: undef :: undef :: undef :: undef :: undef :: undef :: undef :: undef :: undef :: undef :: undef :: undef :: undef :: undef :: undef :: undef :: undef :: undef :: undef :: undef :: undef :: undef :: undef :: undef :: undef :: undef :: undef :: undef :: undef :: undef :: undef :: undef :: undef :: undef :: undef :: undef :: undef :: undef :: undef :: undef :: undef :: undef :: undef :: undef :: undef :: undef :: undef :: undef :: undef :: undef :: undef :: undef :: undef :: undef :: undef :: undef :: undef :: undef :: undef :: undef :: undef :: undef :: undef :: undef :: undef :: undef :: undef :: undef :: undef :: undef :: undef :: undef :: undef :: undef :: undef :: undef :: undef :: undef :: undef :: undef :: undef :: []).toArray, []⟩ u) := by
      intro u aA cA tA bG bJ BW KS DA OKA BLA XG NG XJ NJ NEGJ
      rw [hG]
      have hS : u.cell? ⟨bs, 0, none⟩ = some (.slice a0 xs.length c0) ∧ u.cell? ⟨bs, 1, none⟩ = some (.int .u8 (N0 : Int)) ∧ u.cell? ⟨bs, 2, none⟩ = some (.slice a1 ys.length c1) ∧ u.cell? ⟨bs, 3, none⟩ = some (.int .u8 (N1 : Int)) ∧ u.cell? ⟨bs, 4, none⟩ = some (.slice a2 zs.length c2) ∧ u.cell? ⟨bs, 5, none⟩ = some (.int .u8 (N2 : Int)) := box6v KS.out
      refine wpAnyH_ready (rs := [5, 9]) (by kernel_rfl) (by simp) ?_
      refine AllReadyH.cons rfl (fun K hK => ?_) (AllReadyH.cons rfl (fun K hK => ?_) (AllReadyH.nil))
      · try simp only [Act.put, List.getElem_toArray, List.getElem_cons_zero, List.getElem_cons_succ, List.setIfInBounds_toArray, List.set_cons_zero, List.set_cons_succ]
        go_simp
        refine (lmade_any u _ ys N1 (HS1.out.below BW.out)).mono ?_
        rintro e u1 ⟨⟨aG, cG, tG, rfl, ok, bl, hM⟩, hb⟩
        have DG := Lib.hid (hM (fun q => q = bG ∨ q = bJ) (fun q hq => by have h1 := heap_lt XG.out; have h2 := heap_lt XJ.out; omega))
        have OKG := Lib.hid ok; have BLG := Lib.hid bl
        replace KS : Hid (u1.heap[bs]? = some (.cells #[.slice a0 xs.length c0, .int .u8 (N0 : Int), .slice a1 ys.length c1, .int .u8 (N1 : Int), .slice a2 zs.length c2, .int .u8 (N2 : Int)] 57 (0, 0))) := heap_below hb KS.out
        replace DA := Lib.hid (DA.out.below hb)
        replace XG := Lib.hid (heap_below hb XG.out)
        replace XJ := Lib.hid (heap_below hb XJ.out)
        replace BW := Lib.hid (BW.out.trans (hb.mono BW.out.size))
        clear hM hb ok bl
        refine hK.out _ _ (box6v KS.out) (fun hS => ?_)
        clear hK K
        try simp only [Act.put, List.getElem_toArray, List.getElem_cons_zero, List.getElem_cons_succ, List.setIfInBounds_toArray, List.set_cons_zero, List.set_cons_succ]
        rw [← hG]
        exact st2_12.out u1 aA cA tA aG cG tG bG bJ BW KS DA OKA BLA DG OKG BLG XG NG XJ NJ NEGJ
      · try simp only [Act.put, List.getElem_toArray, List.getElem_cons_zero, List.getElem_cons_succ, List.setIfInBounds_toArray, List.set_cons_zero, List.set_cons_succ]
        obtain ⟨u1, bA, eX, hBX, zX, hX, BX⟩ := laid u dg0 28
        have NA : Hid (bs + 1 ≤ bA) := by show _ ≤ _; have := heap_lt KS.out; omega
        have NEAG : Hid (bA ≠ bG) := by have h := heap_lt XG.out; show _ ≠ _; omega
        have NEAJ : Hid (bA ≠ bJ) := by have h := heap_lt XJ.out; show _ ≠ _; omega
        replace DA : Hid (DgAt u1 (fun q => q = bA ∨ q = bG ∨ q = bJ) (.agg #[.slice aA tA.canon.nodes.length cA, .int .i64 tA.canon.root]) tA.canon) := DA.out.newer BX (fun q hq => by rcases hq with rfl | rfl | rfl <;> first | exact .inr (by omega) | (left; simp) )
        replace XG := Lib.hid (heap_below BX XG.out)
        replace XJ := Lib.hid (heap_below BX XJ.out)
        replace KS : Hid (u1.heap[bs]? = some (.cells #[.slice a0 xs.length c0, .int .u8 (N0 : Int), .slice a1 ys.length c1, .int .u8 (N1 : Int), .slice a2 zs.length c2, .int .u8 (N2 : Int)] 57 (0, 0))) := heap_below BX KS.out
        have XA := Lib.hid hX
        replace BW := Lib.hid (BW.out.trans (BX.mono BW.out.size))
        go_simp
        clear hX BX eX hBX zX
        refine hK.out _ _ (box6v KS.out) (fun hS => ?_)
        clear hK K
        try simp only [Act.put, List.getElem_toArray, List.getElem_cons_zero, List.getElem_cons_succ, List.setIfInBounds_toArray, List.set_cons_zero, List.set_cons_succ]
        rw [← hG]
        exact st1_012.out u1 aA cA tA bA bG bJ BW KS DA OKA BLA XA NA XG NG XJ NJ NEAG NEAJ NEGJ
    have st1_0 : Hid (∀ (u : World) (aA : Option Addr) (cA : Nat) (tA : T) (bA : Nat), Hid (Below w.heap.size w u) → Hid (u.heap[bs]? = some (.cells #[.slice a0 xs.length c0, .int .u8 (N0 : Int), .slice a1 ys.length c1, .int .u8 (N1 : Int), .slice a2 zs.length c2, .int .u8 (N2 : Int)] 57 (0, 0))) → Hid (DgAt u (fun q => q = bA) (.agg #[.slice aA tA.canon.nodes.length cA, .int .i64 tA.canon.root]) tA.canon) → Hid (tA.Ok) → Hid (tA.bel (N0 % 7)) → Hid (u.heap[bA]? = some (.cells dg0 28 (0, 0))) → Hid (bs + 1 ≤ bA) → G 7 #[true, true, true, true, true, false, true, true, false, true, false, false, false, false, false] ⟨((.agg #[.slice a0 xs.length c0, .int .u8 (N0 : Int), .slice a1 ys.length c1, .int .u8 (N1 : Int), .slice a2 zs.length c2, .int .u8 (N2 : Int)]) :: .int .u64 (q : Int) :: (.pointer (some ⟨bs, 0, none⟩)) :: undef :: .bool false :: .bool true :: (.pointer (some ⟨bA, 0, none⟩)) :: undef :: undef :: undef :: undef :: undef :: undef :: undef :: undef :: undef :: undef :: undef :: undef :: undef :: undef :: undef :: undef :: undef :: undef :: .bool true :: (.pointer (some ⟨bs, 0, none⟩)) :: (.agg #[.slice a0 xs.length c0, .int .u8 (N0 : Int)]) :: (.agg #[.slice aA tA.canon.nodes.length cA, .int .i64 tA.canon.root]) :: (.pointer (some ⟨bs, 2, none⟩)) :: (.agg #[.slice a1 ys.length c1, .int .u8 (N1 : Int)]) :: undef :: (.pointer (some ⟨bs, 4, none⟩)) :: (.agg #[.slice a2 zs.length c2, .int .u8 (N2 : Int)]) :: undef :: undef :: undef :: undef :: undef :: undef :: undef :: undef :: undef :: undef :: undef :: undef :: undef :: undef :: undef :: undef :: undef :: undef :: undef :: undef :: undef :: undef :: undef :: undef :: undef :: undef :: undef :: undef :: undef :: undef :: undef :: undef :: undef :: undef :: undef :: undef :: undef :: undef :: undef :: undef :: undef :: undef :: undef :: undef :: undef :: undef :: undef :: undef :: undef :: undef :: undef :: undef :: undef :: undef :: undef :: undef :: undef :: undef :: undef :: undef :: undef :: undef :: undef :: undef :: undef :: undef :: undef :: undef :: undef :: undef :: undef :: undef :: undef :: undef :: undef :: undef :: undef :: undef :: undef :: undef :: undef :: undef :: undef :: undef :: undef :: undef :: undef :: undef :: undef :: undef :: undef :: undef :: undef :: undef :: undef :: undef :: undef :: undef :: undef :: undef :: undef :: undef :: undef :: undef :: undef :: undef :: undef :: undef :: undef :: undef :: []).toArray, []⟩ u) := by
      intro u aA cA tA bA BW KS DA OKA BLA XA NA
      rw [hG]
      have hS : u.cell? ⟨bs, 0, none⟩ = some (.slice a0 xs.length c0) ∧ u.cell? ⟨bs, 1, none⟩ = some (.int .u8 (N0 : Int)) ∧ u.cell? ⟨bs, 2, none⟩ = some (.slice a1 ys.length c1) ∧ u.cell? ⟨bs, 3, none⟩ = some (.int .u8 (N1 : Int)) ∧ u.cell? ⟨bs, 4, none⟩ = some (.slice a2 zs.length c2) ∧ u.cell? ⟨bs, 5, none⟩ = some (.int .u8 (N2 : Int)) := box6v KS.out
      refine wpAnyH_ready (rs := [5, 10, 11]) (by kernel_rfl) (by simp) ?_
      refine AllReadyH.cons rfl (fun K hK => ?_) (AllReadyH.cons rfl (fun K hK => ?_) (AllReadyH.cons rfl (fun K hK => ?_) (AllReadyH.nil)))
      · try simp only [Act.put, List.getElem_toArray, List.getElem_cons_zero, List.getElem_cons_succ, List.setIfInBounds_toArray, List.set_cons_zero, List.set_cons_succ]
        go_simp
        refine (lmade_any u _ ys N1 (HS1.out.below BW.out)).mono ?_
        rintro e u1 ⟨⟨aG, cG, tG, rfl, ok, bl, hM⟩, hb⟩
        have DG := Lib.hid (hM (fun q => q = bA) (fun q hq => by have h0 := heap_lt XA.out; omega))
        have OKG := Lib.hid ok; have BLG := Lib.hid bl
        replace KS : Hid (u1.heap[bs]? = some (.cells #[.slice a0 xs.length c0, .int .u8 (N0 : Int), .slice a1 ys.length c1, .int .u8 (N1 : Int), .slice a2 zs.length c2, .int .u8 (N2 : Int)] 57 (0, 0))) := heap_below hb KS.out
        replace DA := Lib.hid (DA.out.below hb)
        replace XA := Lib.hid (heap_below hb XA.out)
        replace BW := Lib.hid (BW.out.trans (hb.mono BW.out.size))
        clear hM hb ok bl
        refine hK.out _ _ (box6v KS.out) (fun hS => ?_)
        clear hK K
        try simp only [Act.put, List.getElem_toArray, List.getElem_cons_zero, List.getElem_cons_succ, List.setIfInBounds_toArray, List.set_cons_zero, List.set_cons_succ]
        rw [← hG]
        exact st2_0.out u1 aA cA tA aG cG tG bA BW KS DA OKA BLA DG OKG BLG XA NA
      · try simp only [Act.put, List.getElem_toArray, List.getElem_cons_zero, List.getElem_cons_succ, List.setIfInBounds_toArray, List.set_cons_zero, List.set_cons_succ]
        obtain ⟨u1, bG, eX, hBX, zX, hX, BX⟩ := laid u dg0 28
        have NG : Hid (bs + 1 ≤ bG) := by show _ ≤ _; have := heap_lt KS.out; omega
        have NEAG : Hid (bA ≠ bG) := by have h := heap_lt XA.out; show _ ≠ _; omega
        replace DA : Hid (DgAt u1 (fun q => q = bA ∨ q = bG) (.agg #[.slice aA tA.canon.nodes.length cA, .int .i64 tA.canon.root]) tA.canon) := DA.out.newer BX (fun q hq => by rcases hq with rfl | rfl <;> first | exact .inr (by omega) | (left; simp) )
        replace XA := Lib.hid (heap_below BX XA.out)
        replace KS : Hid (u1.heap[bs]? = some (.cells #[.slice a0 xs.length c0, .int .u8 (N0 : Int), .slice a1 ys.length c1, .int .u8 (N1 : Int), .slice a2 zs.length c2, .int .u8 (N2 : Int)] 57 (0, 0))) := heap_below BX KS.out
        have XG := Lib.hid hX
        replace BW := Lib.hid (BW.out.trans (BX.mono BW.out.size))
        go_simp
        clear hX BX eX hBX zX
        refine hK.out _ _ (box6v KS.out) (fun hS => ?_)
        clear hK K
        try simp only [Act.put, List.getElem_toArray, List.getElem_cons_zero, List.getElem_cons_succ, List.setIfInBounds_toArray, List.set_cons_zero, List.set_cons_succ]
        rw [← hG]
        exact st1_01.out u1 aA cA tA bA bG BW KS DA OKA BLA XA NA XG NG NEAG
      · try simp only [Act.put, List.getElem_toArray, List.getElem_cons_zero, List.getElem_cons_succ, List.setIfInBounds_toArray, List.set_cons_zero, List.set_cons_succ]
        obtain ⟨u1, bJ, eX, hBX, zX, hX, BX⟩ := laid u dg0 28
        have NJ : Hid (bs + 1 ≤ bJ) := by show _ ≤ _; have := heap_lt KS.out; omega
        have NEAJ : Hid (bA ≠ bJ) := by have h := heap_lt XA.out; show _ ≠ _; omega
        replace DA : Hid (DgAt u1 (fun q => q = bA ∨ q = bJ) (.agg #[.slice aA tA.canon.nodes.length cA, .int .i64 tA.canon.root]) tA.canon) := DA.out.newer BX (fun q hq => by rcases hq with rfl | rfl <;> first | exact .inr (by omega) | (left; simp) )
        replace XA := Lib.hid (heap_below BX XA.out)
        replace KS : Hid (u1.heap[bs]? = some (.cells #[.slice a0 xs.length c0, .int .u8 (N0 : Int), .slice a1 ys.length c1, .int .u8 (N1 : Int), .slice a2 zs.length c2, .int .u8 (N2 : Int)] 57 (0, 0))) := heap_below BX KS.out
        have XJ := Lib.hid hX
        replace BW := Lib.hid (BW.out.trans (BX.mono BW.out.size))
        go_simp
        clear hX BX eX hBX zX
        refine hK.out _ _ (box6v KS.out) (fun hS => ?_)
        clear hK K
        try simp only [Act.put, List.getElem_toArray, List.getElem_cons_zero, List.getElem_cons_succ, List.setIfInBounds_toArray, List.set_cons_zero, List.set_cons_succ]
        rw [← hG]
        exact st1_02.out u1 aA cA tA bA bJ BW KS DA OKA BLA XA NA XJ NJ NEAJ
    have st1_1 : Hid (∀ (u : World) (aA : Option Addr) (cA : Nat) (tA : T) (bG : Nat), Hid (Below w.heap.size w u) → Hid (u.heap[bs]? = some (.cells #[.slice a0 xs.length c0, .int .u8 (N0 : Int), .slice a1 ys.length c1, .int .u8 (N1 : Int), .slice a2 zs.length c2, .int .u8 (N2 : Int)] 57 (0, 0))) → Hid (DgAt u (fun q => q = bG) (.agg #[.slice aA tA.canon.nodes.length cA, .int .i64 tA.canon.root]) tA.canon) → Hid (tA.Ok) → Hid (tA.bel (N0 % 7)) → Hid (u.heap[bG]? = some (.cells dg0 28 (0, 0))) → Hid (bs + 1 ≤ bG) → G 7 #[true, true, true, true, true, false, true, true, false, false, true, false, false, false, false] ⟨((.agg #[.slice a0 xs.length c0, .int .u8 (N0 : Int), .slice a1 ys.length c1, .int .u8 (N1 : Int), .slice a2 zs.length c2, .int .u8 (N2 : Int)]) :: .int .u64 (q : Int) :: (.pointer (some ⟨bs, 0, none⟩)) :: undef :: .bool false :: .bool true :: undef :: (.pointer (some ⟨bG, 0, none⟩)) :: undef :: undef :: undef :: undef :: undef :: undef :: undef :: undef :: undef :: undef :: undef :: undef :: undef :: undef :: undef :: undef :: undef :: .bool true :: (.pointer (some ⟨bs, 0, none⟩)) :: (.agg #[.slice a0 xs.length c0, .int .u8 (N0 : Int)]) :: (.agg #[.slice aA tA.canon.nodes.length cA, .int .i64 tA.canon.root]) :: (.pointer (some ⟨bs, 2, none⟩)) :: (.agg #[.slice a1 ys.length c1, .int .u8 (N1 : Int)]) :: undef :: (.pointer (some ⟨bs, 4, none⟩)) :: (.agg #[.slice a2 zs.length c2, .int .u8 (N2 : Int)]) :: undef :: undef :: undef :: undef :: undef :: undef :: undef :: undef :: undef :: undef :: undef :: undef :: undef :: undef :: undef :: undef :: undef :: undef :: undef :: undef :: undef :: undef :: undef :: undef :: undef :: undef :: undef :: undef :: undef :: undef :: undef :: undef :: undef :: undef :: undef :: undef :: undef :: undef :: undef :: undef :: undef :: undef :: undef :: undef :: undef :: undef :: undef :: undef :: undef :: undef :: undef :: undef :: undef :: undef :: undef :: undef :: undef :: undef :: undef :: undef :: undef :: undef :: undef :: undef :: undef :: undef :: undef :: undef :: undef :: undef :: undef :: undef :: undef :: undef :: undef :: undef :: undef :: undef :: undef :: undef :: undef :: undef :: undef :: undef :: undef :: undef :: undef :: undef :: undef :: undef :: undef :: undef :: undef :: undef :: undef :: undef :: undef :: undef :: undef :: undef :: undef :: undef :: undef :: undef :: undef :: undef :: undef :: undef :: undef :: undef :: []).toArray, []⟩ u) := by
      intro u aA cA tA bG BW KS DA OKA BLA XG NG
      rw [hG]
      have hS : u.cell? ⟨bs, 0, none⟩ = some (.slice a0 xs.length c0) ∧ u.cell? ⟨bs, 1, none⟩ = some (.int .u8 (N0 : Int)) ∧ u.cell? ⟨bs, 2, none⟩ = some (.slice a1 ys.length c1) ∧ u.cell? ⟨bs, 3, none⟩ = some (.int .u8 (N1 : Int)) ∧ u.cell? ⟨bs, 4, none⟩ = some (.slice a2 zs.length c2) ∧ u.cell? ⟨bs, 5, none⟩ = some (.int .u8 (N2 : Int)) := box6v KS.out
      refine wpAnyH_ready (rs := [5, 9, 11]) (by kernel_rfl) (by simp) ?_
      refine AllReadyH.cons rfl (fun K hK => ?_) (AllReadyH.cons rfl (fun K hK => ?_) (AllReadyH.cons rfl (fun K hK => ?_) (AllReadyH.nil)))
      · try simp only [Act.put, List.getElem_toArray, List.getElem_cons_zero, List.getElem_cons_succ, List.setIfInBounds_toArray, List.set_cons_zero, List.set_cons_succ]
        go_simp
        refine (lmade_any u _ ys N1 (HS1.out.below BW.out)).mono ?_
        rintro e u1 ⟨⟨aG, cG, tG, rfl, ok, bl, hM⟩, hb⟩
        have DG := Lib.hid (hM (fun q => q = bG) (fun q hq => by have h1 := heap_lt XG.out; omega))
        have OKG := Lib.hid ok; have BLG := Lib.hid bl
        replace KS : Hid (u1.heap[bs]? = some (.cells #[.slice a0 xs.length c0, .int .u8 (N0 : Int), .slice a1 ys.length c1, .int .u8 (N1 : Int), .slice a2 zs.length c2, .int .u8 (N2 : Int)] 57 (0, 0))) := heap_below hb KS.out
        replace DA := Lib.hid (DA.out.below hb)
        replace XG := Lib.hid (heap_below hb XG.out)
        replace BW := Lib.hid (BW.out.trans (hb.mono BW.out.size))
        clear hM hb ok bl
        refine hK.out _ _ (box6v KS.out) (fun hS => ?_)
        clear hK K
        try simp only [Act.put, List.getElem_toArray, List.getElem_cons_zero, List.getElem_cons_succ, List.setIfInBounds_toArray, List.set_cons_zero, List.set_cons_succ]
        rw [← hG]
        exact st2_1.out u1 aA cA tA aG cG tG bG BW KS DA OKA BLA DG OKG BLG XG NG
      · try simp only [Act.put, List.getElem_toArray, List.getElem_cons_zero, List.getElem_cons_succ, List.setIfInBounds_toArray, List.set_cons_zero, List.set_cons_succ]
        obtain ⟨u1, bA, eX, hBX, zX, hX, BX⟩ := laid u dg0 28
        have NA : Hid (bs + 1 ≤ bA) := by show _ ≤ _; have := heap_lt KS.out; omega
        have NEAG : Hid (bA ≠ bG) := by have h := heap_lt XG.out; show _ ≠ _; omega
        replace DA : Hid (DgAt u1 (fun q => q = bA ∨ q = bG) (.agg #[.slice aA tA.canon.nodes.length cA, .int .i64 tA.canon.root]) tA.canon) := DA.out.newer BX (fun q hq => by rcases hq with rfl | rfl <;> first | exact .inr (by omega) | (left; simp) )
        replace XG := Lib.hid (heap_below BX XG.out)
        replace KS : Hid (u1.heap[bs]? = some (.cells #[.slice a0 xs.length c0, .int .u8 (N0 : Int), .slice a1 ys.length c1, .int .u8 (N1 : Int), .slice a2 zs.length c2, .int .u8 (N2 : Int)] 57 (0, 0))) := heap_below BX KS.out
        have XA := Lib.hid hX
        replace BW := Lib.hid (BW.out.trans (BX.mono BW.out.size))
        go_simp
        clear hX BX eX hBX zX
        refine hK.out _ _ (box6v KS.out) (fun hS => ?_)
        clear hK K
        try simp only [Act.put, List.getElem_toArray, List.getElem_cons_zero, List.getElem_cons_succ, List.setIfInBounds_toArray, List.set_cons_zero, List.set_cons_succ]
        rw [← hG]
        exact st1_01.out u1 aA cA tA bA bG BW KS DA OKA BLA XA NA XG NG NEAG
      · try simp only [Act.put, List.getElem_toArray, List.getElem_cons_zero, List.getElem_cons_succ, List.setIfInBounds_toArray, List.set_cons_zero, List.set_cons_succ]
        obtain ⟨u1, bJ, eX, hBX, zX, hX, BX⟩ := laid u dg0 28
        have NJ : Hid (bs + 1 ≤ bJ) := by show _ ≤ _; have := heap_lt KS.out; omega
        have NEGJ : Hid (bG ≠ bJ) := by have h := heap_lt XG.out; show _ ≠ _; omega
        replace DA : Hid (DgAt u1 (fun q => q = bG ∨ q = bJ) (.agg #[.slice aA tA.canon.nodes.length cA, .int .i64 tA.canon.root]) tA.canon) := DA.out.newer BX (fun q hq => by rcases hq with rfl | rfl <;> first | exact .inr (by omega) | (left; simp) )
        replace XG := Lib.hid (heap_below BX XG.out)
        replace KS : Hid (u1.heap[bs]? = some (.cells #[.slice a0 xs.length c0, .int .u8 (N0 : Int), .slice a1 ys.length c1, .int .u8 (N1 : Int), .slice a2 zs.length c2, .int .u8 (N2 : Int)] 57 (0, 0))) := heap_below BX KS.out
        have XJ := Lib.hid hX
        replace BW := Lib.hid (BW.out.trans (BX.mono BW.out.size))
        go_simp
        clear hX BX eX hBX zX
        refine hK.out _ _ (box6v KS.out) (fun hS => ?_)
        clear hK K
        try simp only [Act.put, List.getElem_toArray, List.getElem_cons_zero, List.getElem_cons_succ, List.setIfInBounds_toArray, List.set_cons_zero, List.set_cons_succ]
        rw [← hG]
        exact st1_12.out u1 aA cA tA bG bJ BW KS DA OKA BLA XG NG XJ NJ NEGJ
    have st1_2 : Hid (∀ (u : World) (aA : Option Addr) (cA : Nat) (tA : T) (bJ : Nat), Hid (Below w.heap.size w u) → Hid (u.heap[bs]? = some (.cells #[.slice a0 xs.length c0, .int .u8 (N0 : Int), .slice a1 ys.length c1, .int .u8 (N1 : Int), .slice a2 zs.length c2, .int .u8 (N2 : Int)] 57 (0, 0))) → Hid (DgAt u (fun q => q = bJ) (.agg #[.slice aA tA.canon.nodes.length cA, .int .i64 tA.canon.root]) tA.canon) → Hid (tA.Ok) → Hid (tA.bel (N0 % 7)) → Hid (u.heap[bJ]? = some (.cells dg0 28 (0, 0))) → Hid (bs + 1 ≤ bJ) → G 7 #[true, true, true, true, true, false, true, true, false, false, false, true, false, false, false] ⟨((.agg #[.slice a0 xs.length c0, .int .u8 (N0 : Int), .slice a1 ys.length c1, .int .u8 (N1 : Int), .slice a2 zs.length c2, .int .u8 (N2 : Int)]) :: .int .u64 (q : Int) :: (.pointer (some ⟨bs, 0, none⟩)) :: undef :: .bool false :: .bool true :: undef :: undef :: (.pointer (some ⟨bJ, 0, none⟩)) :: undef :: undef :: undef :: undef :: undef :: undef :: undef :: undef :: undef :: undef :: undef :: undef :: undef :: undef :: undef :: undef :: .bool true :: (.pointer (some ⟨bs, 0, none⟩)) :: (.agg #[.slice a0 xs.length c0, .int .u8 (N0 : Int)]) :: (.agg #[.slice aA tA.canon.nodes.length cA, .int .i64 tA.canon.root]) :: (.pointer (some ⟨bs, 2, none⟩)) :: (.agg #[.slice a1 ys.length c1, .int .u8 (N1 : Int)]) :: undef :: (.pointer (some ⟨bs, 4, none⟩)) :: (.agg #[.slice a2 zs.length c2, .int .u8 (N2 : Int)]) :: undef :: undef :: undef :: undef :: undef :: undef :: undef :: undef :: undef :: undef :: undef :: undef :: undef :: undef :: undef :: undef :: undef :: undef :: undef :: undef :: undef :: undef :: undef :: undef :: undef :: undef :: undef :: undef :: undef :: undef :: undef :: undef :: undef :: undef :: undef :: undef :: undef :: undef :: undef :: undef :: undef :: undef :: undef :: undef :: undef :: undef :: undef :: undef :: undef :: undef :: undef :: undef :: undef :: undef :: undef :: undef :: undef :: undef :: undef :: undef :: undef :: undef :: undef :: undef :: undef :: undef :: undef :: undef :: undef :: undef :: undef :: undef :: undef :: undef :: undef :: undef :: undef :: undef :: undef :: undef :: undef :: undef :: undef :: undef :: undef :: undef :: undef :: undef :: undef :: undef :: undef :: undef :: undef :: undef :: undef :: undef :: undef :: undef :: undef :: undef :: undef :: undef :: undef :: undef :: undef :: undef :: undef :: undef :: undef :: undef :: []).toArray, []⟩ u) := by
      intro u aA cA tA bJ BW KS DA OKA BLA XJ NJ
      rw [hG]
      have hS : u.cell? ⟨bs, 0, none⟩ = some (.slice a0 xs.length c0) ∧ u.cell? ⟨bs, 1, none⟩ = some (.int .u8 (N0 : Int)) ∧ u.cell? ⟨bs, 2, none⟩ = some (.slice a1 ys.length c1) ∧ u.cell? ⟨bs, 3, none⟩ = some (.int .u8 (N1 : Int)) ∧ u.cell? ⟨bs, 4, none⟩ = some (.slice a2 zs.length c2) ∧ u.cell? ⟨bs, 5, none⟩ = some (.int .u8 (N2 : Int)) := box6v KS.out
      refine wpAnyH_ready (rs := [5, 9, 10]) (by kernel_rfl) (by simp) ?_
      refine AllReadyH.cons rfl (fun K hK => ?_) (AllReadyH.cons rfl (fun K hK => ?_) (AllReadyH.cons rfl (fun K hK => ?_) (AllReadyH.nil)))
      · try simp only [Act.put, List.getElem_toArray, List.getElem_cons_zero, List.getElem_cons_succ, List.setIfInBounds_toArray, List.set_cons_zero, List.set_cons_succ]
        go_simp
        refine (lmade_any u _ ys N1 (HS1.out.below BW.out)).mono ?_
        rintro e u1 ⟨⟨aG, cG, tG, rfl, ok, bl, hM⟩, hb⟩
        have DG := Lib.hid (hM (fun q => q = bJ) (fun q hq => by have h2 := heap_lt XJ.out; omega))
        have OKG := Lib.hid ok; have BLG := Lib.hid bl
        replace KS : Hid (u1.heap[bs]? = some (.cells #[.slice a0 xs.length c0, .int .u8 (N0 : Int), .slice a1 ys.length c1, .int .u8 (N1 : Int), .slice a2 zs.length c2, .int .u8 (N2 : Int)] 57 (0, 0))) := heap_below hb KS.out
        replace DA := Lib.hid (DA.out.below hb)
        replace XJ := Lib.hid (heap_below hb XJ.out)
        replace BW := Lib.hid (BW.out.trans (hb.mono BW.out.size))
        clear hM hb ok bl
        refine hK.out _ _ (box6v KS.out) (fun hS => ?_)
        clear hK K
        try simp only [Act.put, List.getElem_toArray, List.getElem_cons_zero, List.getElem_cons_succ, List.setIfInBounds_toArray, List.set_cons_zero, List.set_cons_succ]
        rw [← hG]
        exact st2_2.out u1 aA cA tA aG cG tG bJ BW KS DA OKA BLA DG OKG BLG XJ NJ
      · try simp only [Act.put, List.getElem_toArray, List.getElem_cons_zero, List.getElem_cons_succ, List.setIfInBounds_toArray, List.set_cons_zero, List.set_cons_succ]
        obtain ⟨u1, bA, eX, hBX, zX, hX, BX⟩ := laid u dg0 28
        have NA : Hid (bs + 1 ≤ bA) := by show _ ≤ _; have := heap_lt KS.out; omega
        have NEAJ : Hid (bA ≠ bJ) := by have h := heap_lt XJ.out; show _ ≠ _; omega
        replace DA : Hid (DgAt u1 (fun q => q = bA ∨ q = bJ) (.agg #[.slice aA tA.canon.nodes.length cA, .int .i64 tA.canon.root]) tA.canon) := DA.out.newer BX (fun q hq => by rcases hq with rfl | rfl <;> first | exact .inr (by omega) | (left; simp) )
        replace XJ := Lib.hid (heap_below BX XJ.out)
        replace KS : Hid (u1.heap[bs]? = some (.cells #[.slice a0 xs.length c0, .int .u8 (N0 : Int), .slice a1 ys.length c1, .int .u8 (N1 : Int), .slice a2 zs.length c2, .int .u8 (N2 : Int)] 57 (0, 0))) := heap_below BX KS.out
        have XA := Lib.hid hX
        replace BW := Lib.hid (BW.out.trans (BX.mono BW.out.size))
        go_simp
        clear hX BX eX hBX zX
        refine hK.out _ _ (box6v KS.out) (fun hS => ?_)
        clear hK K
        try simp only [Act.put, List.getElem_toArray, List.getElem_cons_zero, List.getElem_cons_succ, List.setIfInBounds_toArray, List.set_cons_zero, List.set_cons_succ]
        rw [← hG]
        exact st1_02.out u1 aA cA tA bA bJ BW KS DA OKA BLA XA NA XJ NJ NEAJ
      · try simp only [Act.put, List.getElem_toArray, List.getElem_cons_zero, List.getElem_cons_succ, List.setIfInBounds_toArray, List.set_cons_zero, List.set_cons_succ]
        obtain ⟨u1, bG, eX, hBX, zX, hX, BX⟩ := laid u dg0 28
        have NG : Hid (bs + 1 ≤ bG) := by show _ ≤ _; have := heap_lt KS.out; omega
        have NEGJ : Hid (bG ≠ bJ) := by have h := heap_lt XJ.out; show _ ≠ _; omega
        replace DA : Hid (DgAt u1 (fun q => q = bG ∨ q = bJ) (.agg #[.slice aA tA.canon.nodes.length cA, .int .i64 tA.canon.root]) tA.canon) := DA.out.newer BX (fun q hq => by rcases hq with rfl | rfl <;> first | exact .inr (by omega) | (left; simp) )
        replace XJ := Lib.hid (heap_below BX XJ.out)
        replace KS : Hid (u1.heap[bs]? = some (.cells #[.slice a0 xs.length c0, .int .u8 (N0 : Int), .slice a1 ys.length c1, .int .u8 (N1 : Int), .slice a2 zs.length c2, .int .u8 (N2 : Int)] 57 (0, 0))) := heap_below BX KS.out
        have XG := Lib.hid hX
        replace BW := Lib.hid (BW.out.trans (BX.mono BW.out.size))
        go_simp
        clear hX BX eX hBX zX
        refine hK.out _ _ (box6v KS.out) (fun hS => ?_)
        clear hK K
        try simp only [Act.put, List.getElem_toArray, List.getElem_cons_zero, List.getElem_cons_succ, List.setIfInBounds_toArray, List.set_cons_zero, List.set_cons_succ]
        rw [← hG]
        exact st1_12.out u1 aA cA tA bG bJ BW KS DA OKA BLA XG NG XJ NJ NEGJ
    have st1_ : Hid (∀ (u : World) (aA : Option Addr) (cA : Nat) (tA : T), Hid (Below w.heap.size w u) → Hid (u.heap[bs]? = some (.cells #[.slice a0 xs.length c0, .int .u8 (N0 : Int), .slice a1 ys.length c1, .int .u8 (N1 : Int), .slice a2 zs.length c2, .int .u8 (N2 : Int)] 57 (0, 0))) → Hid (DgAt u NoB (.agg #[.slice aA tA.canon.nodes.length cA, .int .i64 tA.canon.root]) tA.canon) → Hid (tA.Ok) → Hid (tA.bel (N0 % 7)) → G 8 #[true, true, true, true, true, false, true, true, false, false, false, false, false, false, false] ⟨((.agg #[.slice a0 xs.length c0, .int .u8 (N0 : Int), .slice a1 ys.length c1, .int .u8 (N1 : Int), .slice a2 zs.length c2, .int .u8 (N2 : Int)]) :: .int .u64 (q : Int) :: (.pointer (some ⟨bs, 0, none⟩)) :: undef :: .bool false :: .bool true :: undef :: undef :: undef :: undef :: undef :: undef :: undef :: undef :: undef :: undef :: undef :: undef :: undef :: undef :: undef :: undef :: undef :: undef :: undef :: .bool true :: (.pointer (some ⟨bs, 0, none⟩)) :: (.agg #[.slice a0 xs.length c0, .int .u8 (N0 : Int)]) :: (.agg #[.slice aA tA.canon.nodes.length cA, .int .i64 tA.canon.root]) :: (.pointer (some ⟨bs, 2, none⟩)) :: (.agg #[.slice a1 ys.length c1, .int .u8 (N1 : Int)]) :: undef :: (.pointer (some ⟨bs, 4, none⟩)) :: (.agg #[.slice a2 zs.length c2, .int .u8 (N2 : Int)]) :: undef :: undef :: undef :: undef :: undef :: undef :: undef :: undef :: undef :: undef :: undef :: undef :: undef :: undef :: undef :: undef :: undef :: undef :: undef :: undef :: undef :: undef :: undef :: undef :: undef :: undef :: undef :: undef :: undef :: undef :: undef :: undef :: undef :: undef :: undef :: undef :: undef :: undef :: undef :: undef :: undef :: undef :: undef :: undef :: undef :: undef :: undef :: undef :: undef :: undef :: undef :: undef :: undef :: undef :: undef :: undef :: undef :: undef :: undef :: undef :: undef :: undef :: undef :: undef :: undef :: undef :: undef :: undef :: undef :: undef :: undef :: undef :: undef :: undef :: undef :: undef :: undef :: undef :: undef :: undef :: undef :: undef :: undef :: undef :: undef :: undef :: undef :: undef :: undef :: undef :: undef :: undef :: undef :: undef :: undef :: undef :: undef :: undef :: undef :: undef :: undef :: undef :: undef :: undef :: undef :: undef :: undef :: undef :: undef :: undef :: []).toArray, []⟩ u) := by
      intro u aA cA tA BW KS DA OKA BLA
      rw [hG]
      have hS : u.cell? ⟨bs, 0, none⟩ = some (.slice a0 xs.length c0) ∧ u.cell? ⟨bs, 1, none⟩ = some (.int .u8 (N0 : Int)) ∧ u.cell? ⟨bs, 2, none⟩ = some (.slice a1 ys.length c1) ∧ u.cell? ⟨bs, 3, none⟩ = some (.int .u8 (N1 : Int)) ∧ u.cell? ⟨bs, 4, none⟩ = some (.slice a2 zs.length c2) ∧ u.cell? ⟨bs, 5, none⟩ = some (.int .u8 (N2 : Int)) := box6v KS.out
      refine wpAnyH_ready (rs := [5, 9, 10, 11]) (by kernel_rfl) (by simp) ?_
      refine AllReadyH.cons rfl (fun K hK => ?_) (AllReadyH.cons rfl (fun K hK => ?_) (AllReadyH.cons rfl (fun K hK => ?_) (AllReadyH.cons rfl (fun K hK => ?_) (AllReadyH.nil))))
      · try simp only [Act.put, List.getElem_toArray, List.getElem_cons_zero, List.getElem_cons_succ, List.setIfInBounds_toArray, List.set_cons_zero, List.set_cons_succ]
        go_simp
        refine (lmade_any u _ ys N1 (HS1.out.below BW.out)).mono ?_
        rintro e u1 ⟨⟨aG, cG, tG, rfl, ok, bl, hM⟩, hb⟩
        have DG := Lib.hid (hM NoB (fun q hq => hq.elim))
        have OKG := Lib.hid ok; have BLG := Lib.hid bl
        replace KS : Hid (u1.heap[bs]? = some (.cells #[.slice a0 xs.length c0, .int .u8 (N0 : Int), .slice a1 ys.length c1, .int .u8 (N1 : Int), .slice a2 zs.length c2, .int .u8 (N2 : Int)] 57 (0, 0))) := heap_below hb KS.out
        replace DA := Lib.hid (DA.out.below hb)
        replace BW := Lib.hid (BW.out.trans (hb.mono BW.out.size))
        clear hM hb ok bl
        refine hK.out _ _ (box6v KS.out) (fun hS => ?_)
        clear hK K
        try simp only [Act.put, List.getElem_toArray, List.getElem_cons_zero, List.getElem_cons_succ, List.setIfInBounds_toArray, List.set_cons_zero, List.set_cons_succ]
        rw [← hG]
        exact st2_.out u1 aA cA tA aG cG tG BW KS DA OKA BLA DG OKG BLG
      · try simp only [Act.put, List.getElem_toArray, List.getElem_cons_zero, List.getElem_cons_succ, List.setIfInBounds_toArray, List.set_cons_zero, List.set_cons_succ]
        obtain ⟨u1, bA, eX, hBX, zX, hX, BX⟩ := laid u dg0 28
        have NA : Hid (bs + 1 ≤ bA) := by show _ ≤ _; have := heap_lt KS.out; omega
        replace DA : Hid (DgAt u1 (fun q => q = bA) (.agg #[.slice aA tA.canon.nodes.length cA, .int .i64 tA.canon.root]) tA.canon) := DA.out.newer BX (fun q hq => .inr (by rw [hq]; omega))
        replace KS : Hid (u1.heap[bs]? = some (.cells #[.slice a0 xs.length c0, .int .u8 (N0 : Int), .slice a1 ys.length c1, .int .u8 (N1 : Int), .slice a2 zs.length c2, .int .u8 (N2 : Int)] 57 (0, 0))) := heap_below BX KS.out
        have XA := Lib.hid hX
        replace BW := Lib.hid (BW.out.trans (BX.mono BW.out.size))
        go_simp
        clear hX BX eX hBX zX
        refine hK.out _ _ (box6v KS.out) (fun hS => ?_)
        clear hK K
        try simp only [Act.put, List.getElem_toArray, List.getElem_cons_zero, List.getElem_cons_succ, List.setIfInBounds_toArray, List.set_cons_zero, List.set_cons_succ]
        rw [← hG]
        exact st1_0.out u1 aA cA tA bA BW KS DA OKA BLA XA NA
      · try simp only [Act.put, List.getElem_toArray, List.getElem_cons_zero, List.getElem_cons_succ, List.setIfInBounds_toArray, List.set_cons_zero, List.set_cons_succ]
        obtain ⟨u1, bG, eX, hBX, zX, hX, BX⟩ := laid u dg0 28
        have NG : Hid (bs + 1 ≤ bG) := by show _ ≤ _; have := heap_lt KS.out; omega
        replace DA : Hid (DgAt u1 (fun q => q = bG) (.agg #[.slice aA tA.canon.nodes.length cA, .int .i64 tA.canon.root]) tA.canon) := DA.out.newer BX (fun q hq => .inr (by rw [hq]; omega))
        replace KS : Hid (u1.heap[bs]? = some (.cells #[.slice a0 xs.length c0, .int .u8 (N0 : Int), .slice a1 ys.length c1, .int .u8 (N1 : Int), .slice a2 zs.length c2, .int .u8 (N2 : Int)] 57 (0, 0))) := heap_below BX KS.out
        have XG := Lib.hid hX
        replace BW := Lib.hid (BW.out.trans (BX.mono BW.out.size))
        go_simp
        clear hX BX eX hBX zX
        refine hK.out _ _ (box6v KS.out) (fun hS => ?_)
        clear hK K
        try simp only [Act.put, List.getElem_toArray, List.getElem_cons_zero, List.getElem_cons_succ, List.setIfInBounds_toArray, List.set_cons_zero, List.set_cons_succ]
        rw [← hG]
        exact st1_1.out u1 aA cA tA bG BW KS DA OKA BLA XG NG
      · try simp only [Act.put, List.getElem_toArray, List.getElem_cons_zero, List.getElem_cons_succ, List.setIfInBounds_toArray, List.set_cons_zero, List.set_cons_succ]
        obtain ⟨u1, bJ, eX, hBX, zX, hX, BX⟩ := laid u dg0 28
        have NJ : Hid (bs + 1 ≤ bJ) := by show _ ≤ _; have := heap_lt KS.out; omega
        replace DA : Hid (DgAt u1 (fun q => q = bJ) (.agg #[.slice aA tA.canon.nodes.length cA, .int .i64 tA.canon.root]) tA.canon) := DA.out.newer BX (fun q hq => .inr (by rw [hq]; omega))
        replace KS : Hid (u1.heap[bs]? = some (.cells #[.slice a0 xs.length c0, .int .u8 (N0 : Int), .slice a1 ys.length c1, .int .u8 (N1 : Int), .slice a2 zs.length c2, .int .u8 (N2 : Int)] 57 (0, 0))) := heap_below BX KS.out
        have XJ := Lib.hid hX
        replace BW := Lib.hid (BW.out.trans (BX.mono BW.out.size))
        go_simp
        clear hX BX eX hBX zX
        refine hK.out _ _ (box6v KS.out) (fun hS => ?_)
        clear hK K
        try simp only [Act.put, List.getElem_toArray, List.getElem_cons_zero, List.getElem_cons_succ, List.setIfInBounds_toArray, List.set_cons_zero, List.set_cons_succ]
        rw [← hG]
        exact st1_2.out u1 aA cA tA bJ BW KS DA OKA BLA XJ NJ
    have st0_012 : Hid (∀ (u : World) (bA : Nat) (bG : Nat) (bJ : Nat), Hid (Below w.heap.size w u) → Hid (u.heap[bs]? = some (.cells #[.slice a0 xs.length c0, .int .u8 (N0 : Int), .slice a1 ys.length c1, .int .u8 (N1 : Int), .slice a2 zs.length c2, .int .u8 (N2 : Int)] 57 (0, 0))) → Hid (u.heap[bA]? = some (.cells dg0 28 (0, 0))) → Hid (bs + 1 ≤ bA) → Hid (u.heap[bG]? = some (.cells dg0 28 (0, 0))) → Hid (bs + 1 ≤ bG) → Hid (u.heap[bJ]? = some (.cells dg0 28 (0, 0))) → Hid (bs + 1 ≤ bJ) → Hid (bA ≠ bG) → Hid (bA ≠ bJ) → Hid (bG ≠ bJ) → G 6 #[true, true, false, true, true, false, true, true, false, true, true, true, false, false, false] ⟨((.agg #[.slice a0 xs.length c0, .int .u8 (N0 : Int), .slice a1 ys.length c1, .int .u8 (N1 : Int), .slice a2 zs.length c2, .int .u8 (N2 : Int)]) :: .int .u64 (q : Int) :: (.pointer (some ⟨bs, 0, none⟩)) :: undef :: .bool false :: .bool true :: (.pointer (some ⟨bA, 0, none⟩)) :: (.pointer (some ⟨bG, 0, none⟩)) :: (.pointer (some ⟨bJ, 0, none⟩)) :: undef :: undef :: undef :: undef :: undef :: undef :: undef :: undef :: undef :: undef :: undef :: undef :: undef :: undef :: undef :: undef :: .bool true :: (.pointer (some ⟨bs, 0, none⟩)) :: (.agg #[.slice a0 xs.length c0, .int .u8 (N0 : Int)]) :: undef :: (.pointer (some ⟨bs, 2, none⟩)) :: (.agg #[.slice a1 ys.length c1, .int .u8 (N1 : Int)]) :: undef :: (.pointer (some ⟨bs, 4, none⟩)) :: (.agg #[.slice a2 zs.length c2, .int .u8 (N2 : Int)]) :: undef :: undef :: undef :: undef :: undef :: undef :: undef :: undef :: undef :: undef :: undef :: undef :: undef :: undef :: undef :: undef :: undef :: undef :: undef :: undef :: undef :: undef :: undef :: undef :: undef :: undef :: undef :: undef :: undef :: undef :: undef :: undef :: undef :: undef :: undef :: undef :: undef :: undef :: undef :: undef :: undef :: undef :: undef :: undef :: undef :: undef :: undef :: undef :: undef :: undef :: undef :: undef :: undef :: undef :: undef :: undef :: undef :: undef :: undef :: undef :: undef :: undef :: undef :: undef :: undef :: undef :: undef :: undef :: undef :: undef :: undef :: undef :: undef :: undef :: undef :: undef :: undef :: undef :: undef :: undef :: undef :: undef :: undef :: undef :: undef :: undef :: undef :: undef :: undef :: undef :: undef :: undef :: undef :: undef :: undef :: undef :: undef :: undef :: undef :: undef :: undef :: undef :: undef :: undef :: undef :: undef :: undef :: undef :: undef :: undef :: []).toArray, []⟩ u) := by
      intro u bA bG bJ BW KS XA NA XG NG XJ NJ NEAG NEAJ NEGJ
      rw [hG]
      have hS : u.cell? ⟨bs, 0, none⟩ = some (.slice a0 xs.length c0) ∧ u.cell? ⟨bs, 1, none⟩ = some (.int .u8 (N0 : Int)) ∧ u.cell? ⟨bs, 2, none⟩ = some (.slice a1 ys.length c1) ∧ u.cell? ⟨bs, 3, none⟩ = some (.int .u8 (N1 : Int)) ∧ u.cell? ⟨bs, 4, none⟩ = some (.slice a2 zs.length c2) ∧ u.cell? ⟨bs, 5, none⟩ = some (.int .u8 (N2 : Int)) := box6v KS.out
      refine wpAnyH_ready (rs := [2]) (by kernel_rfl) (by simp) ?_
      refine AllReadyH.cons rfl (fun K hK => ?_) (AllReadyH.nil)
      · try simp only [Act.put, List.getElem_toArray, List.getElem_cons_zero, List.getElem_cons_succ, List.setIfInBounds_toArray, List.set_cons_zero, List.set_cons_succ]
        go_simp
        refine (lmade_any u _ xs N0 (HS0.out.below BW.out)).mono ?_
        rintro e u1 ⟨⟨aA, cA, tA, rfl, ok, bl, hM⟩, hb⟩
        have DA := Lib.hid (hM (fun q => q = bA ∨ q = bG ∨ q = bJ) (fun q hq => by have h0 := heap_lt XA.out; have h1 := heap_lt XG.out; have h2 := heap_lt XJ.out; omega))
        have OKA := Lib.hid ok; have BLA := Lib.hid bl
        replace KS : Hid (u1.heap[bs]? = some (.cells #[.slice a0 xs.length c0, .int .u8 (N0 : Int), .slice a1 ys.length c1, .int .u8 (N1 : Int), .slice a2 zs.length c2, .int .u8 (N2 : Int)] 57 (0, 0))) := heap_below hb KS.out
        replace XA := Lib.hid (heap_below hb XA.out)
        replace XG := Lib.hid (heap_below hb XG.out)
        replace XJ := Lib.hid (heap_below hb XJ.out)
        replace BW := Lib.hid (BW.out.trans (hb.mono BW.out.size))
        clear hM hb ok bl
        refine hK.out _ _ (box6v KS.out) (fun hS => ?_)
        clear hK K
        try simp only [Act.put, List.getElem_toArray, List.getElem_cons_zero, List.getElem_cons_succ, List.setIfInBounds_toArray, List.set_cons_zero, List.set_cons_succ]
        rw [← hG]
        exact st1_012.out u1 aA cA tA bA bG bJ BW KS DA OKA BLA XA NA XG NG XJ NJ NEAG NEAJ NEGJ
    have st0_01 : Hid (∀ (u : World) (bA : Nat) (bG : Nat), Hid (Below w.heap.size w u) → Hid (u.heap[bs]? = some (.cells #[.slice a0 xs.length c0, .int .u8 (N0 : Int), .slice a1 ys.length c1, .int .u8 (N1 : Int), .slice a2 zs.length c2, .int .u8 (N2 : Int)] 57 (0, 0))) → Hid (u.heap[bA]? = some (.cells dg0 28 (0, 0))) → Hid (bs + 1 ≤ bA) → Hid (u.heap[bG]? = some (.cells dg0 28 (0, 0))) → Hid (bs + 1 ≤ bG) → Hid (bA ≠ bG) → G 7 #[true, true, false, true, true, false, true, true, false, true, true, false, false, false, false] ⟨((.agg #[.slice a0 xs.length c0, .int .u8 (N0 : Int), .slice a1 ys.length c1, .int .u8 (N1 : Int), .slice a2 zs.length c2, .int .u8 (N2 : Int)]) :: .int .u64 (q : Int) :: (.pointer (some ⟨bs, 0, none⟩)) :: undef :: .bool false :: .bool true :: (.pointer (some ⟨bA, 0, none⟩)) :: (.pointer (some ⟨bG, 0, none⟩)) :: undef :: undef :: undef :: undef :: undef :: undef :: undef :: undef :: undef :: undef :: undef :: undef :: undef :: undef :: undef :: undef :: undef :: .bool true :: (.pointer (some ⟨bs, 0, none⟩)) :: (.agg #[.slice a0 xs.length c0, .int .u8 (N0 : Int)]) :: undef :: (.pointer (some ⟨bs, 2, none⟩)) :: (.agg #[.slice a1 ys.length c1, .int .u8 (N1 : Int)]) :: undef :: (.pointer (some ⟨bs, 4, none⟩)) :: (.agg #[.slice a2 zs.length c2, .int .u8 (N2 : Int)]) :: undef :: undef :: undef :: undef :: undef :: undef :: undef :: undef :: undef :: undef :: undef :: undef :: undef :: undef :: undef :: undef :: undef :: undef :: undef :: undef :: undef :: undef :: undef :: undef :: undef :: undef :: undef :: undef :: undef :: undef :: undef :: undef :: undef :: undef :: undef :: undef :: undef :: undef :: undef :: undef :: undef :: undef :: undef :: undef :: undef :: undef :: undef :: undef :: undef :: undef :: undef :: undef :: undef :: undef :: undef :: undef :: undef :: undef :: undef :: undef :: undef :: undef :: undef :: undef :: undef :: undef :: undef :: undef :: undef :: undef :: undef :: undef :: undef :: undef :: undef :: undef :: undef :: undef :: undef :: undef :: undef :: undef :: undef :: undef :: undef :: undef :: undef :: undef :: undef :: undef :: undef :: undef :: undef :: undef :: undef :: undef :: undef :: undef :: undef :: undef :: undef :: undef :: undef :: undef :: undef :: undef :: undef :: undef :: undef :: undef :: []).toArray, []⟩ u) := by
      intro u bA bG BW KS XA NA XG NG NEAG
      rw [hG]
      have hS : u.cell? ⟨bs, 0, none⟩ = some (.slice a0 xs.length c0) ∧ u.cell? ⟨bs, 1, none⟩ = some (.int .u8 (N0 : Int)) ∧ u.cell? ⟨bs, 2, none⟩ = some (.slice a1 ys.length c1) ∧ u.cell? ⟨bs, 3, none⟩ = some (.int .u8 (N1 : Int)) ∧ u.cell? ⟨bs, 4, none⟩ = some (.slice a2 zs.length c2) ∧ u.cell? ⟨bs, 5, none⟩ = some (.int .u8 (N2 : Int)) := box6v KS.out
      refine wpAnyH_ready (rs := [2, 11]) (by kernel_rfl) (by simp) ?_
      refine AllReadyH.cons rfl (fun K hK => ?_) (AllReadyH.cons rfl (fun K hK => ?_) (AllReadyH.nil))
      · try simp only [Act.put, List.getElem_toArray, List.getElem_cons_zero, List.getElem_cons_succ, List.setIfInBounds_toArray, List.set_cons_zero, List.set_cons_succ]
        go_simp
        refine (lmade_any u _ xs N0 (HS0.out.below BW.out)).mono ?_
        rintro e u1 ⟨⟨aA, cA, tA, rfl, ok, bl, hM⟩, hb⟩
        have DA := Lib.hid (hM (fun q => q = bA ∨ q = bG) (fun q hq => by have h0 := heap_lt XA.out; have h1 := heap_lt XG.out; omega))
        have OKA := Lib.hid ok; have BLA := Lib.hid bl
        replace KS : Hid (u1.heap[bs]? = some (.cells #[.slice a0 xs.length c0, .int .u8 (N0 : Int), .slice a1 ys.length c1, .int .u8 (N1 : Int), .slice a2 zs.length c2, .int .u8 (N2 : Int)] 57 (0, 0))) := heap_below hb KS.out
        replace XA := Lib.hid (heap_below hb XA.out)
        replace XG := Lib.hid (heap_below hb XG.out)
        replace BW := Lib.hid (BW.out.trans (hb.mono BW.out.size))
        clear hM hb ok bl
        refine hK.out _ _ (box6v KS.out) (fun hS => ?_)
        clear hK K
        try simp only [Act.put, List.getElem_toArray, List.getElem_cons_zero, List.getElem_cons_succ, List.setIfInBounds_toArray, List.set_cons_zero, List.set_cons_succ]
        rw [← hG]
        exact st1_01.out u1 aA cA tA bA bG BW KS DA OKA BLA XA NA XG NG NEAG
      · try simp only [Act.put, List.getElem_toArray, List.getElem_cons_zero, List.getElem_cons_succ, List.setIfInBounds_toArray, List.set_cons_zero, List.set_cons_succ]
        obtain ⟨u1, bJ, eX, hBX, zX, hX, BX⟩ := laid u dg0 28
        have NJ : Hid (bs + 1 ≤ bJ) := by show _ ≤ _; have := heap_lt KS.out; omega
        have NEAJ : Hid (bA ≠ bJ) := by have h := heap_lt XA.out; show _ ≠ _; omega
        have NEGJ : Hid (bG ≠ bJ) := by have h := heap_lt XG.out; show _ ≠ _; omega
        replace XA := Lib.hid (heap_below BX XA.out)
        replace XG := Lib.hid (heap_below BX XG.out)
        replace KS : Hid (u1.heap[bs]? = some (.cells #[.slice a0 xs.length c0, .int .u8 (N0 : Int), .slice a1 ys.length c1, .int .u8 (N1 : Int), .slice a2 zs.length c2, .int .u8 (N2 : Int)] 57 (0, 0))) := heap_below BX KS.out
        have XJ := Lib.hid hX
        replace BW := Lib.hid (BW.out.trans (BX.mono BW.out.size))
        go_simp
        clear hX BX eX hBX zX
        refine hK.out _ _ (box6v KS.out) (fun hS => ?_)
        clear hK K
        try simp only [Act.put, List.getElem_toArray, List.getElem_cons_zero, List.getElem_cons_succ, List.setIfInBounds_toArray, List.set_cons_zero, List.set_cons_succ]
        rw [← hG]
        exact st0_012.out u1 bA bG bJ BW KS XA NA XG NG XJ NJ NEAG NEAJ NEGJ
    have st0_02 : Hid (∀ (u : World) (bA : Nat) (bJ : Nat), Hid (Below w.heap.size w u) → Hid (u.heap[bs]? = some (.cells #[.slice a0 xs.length c0, .int .u8 (N0 : Int), .slice a1 ys.length c1, .int .u8 (N1 : Int), .slice a2 zs.length c2, .int .u8 (N2 : Int)] 57 (0, 0))) → Hid (u.heap[bA]? = some (.cells dg0 28 (0, 0))) → Hid (bs + 1 ≤ bA) → Hid (u.heap[bJ]? = some (.cells dg0 28 (0, 0))) → Hid (bs + 1 ≤ bJ) → Hid (bA ≠ bJ) → G 7 #[true, true, false, true, true, false, true, true, false, true, false, true, false, false, false] ⟨((.agg #[.slice a0 xs.length c0, .int .u8 (N0 : Int), .slice a1 ys.length c1, .int .u8 (N1 : Int), .slice a2 zs.length c2, .int .u8 (N2 : Int)]) :: .int .u64 (q : Int) :: (.pointer (some ⟨bs, 0, none⟩)) :: undef :: .bool false :: .bool true :: (.pointer (some ⟨bA, 0, none⟩)) :: undef :: (.pointer (some ⟨bJ, 0, none⟩)) :: undef :: undef :: undef :: undef :: undef :: undef :: undef :: undef :: undef :: undef :: undef :: undef :: undef :: undef :: undef :: undef :: .bool true :: (.pointer (some ⟨bs, 0, none⟩)) :: (.agg #[.slice a0 xs.length c0, .int .u8 (N0 : Int)]) :: undef :: (.pointer (some ⟨bs, 2, none⟩)) :: (.agg #[.slice a1 ys.length c1, .int .u8 (N1 : Int)]) :: undef :: (.pointer (some ⟨bs, 4, none⟩)) :: (.agg #[.slice a2 zs.length c2, .int .u8 (N2 : Int)]) :: undef :: undef :: undef :: undef :: undef :: undef :: undef :: undef :: undef :: undef :: undef :: undef :: undef :: undef :: undef :: undef :: undef :: undef :: undef :: undef :: undef :: undef :: undef :: undef :: undef :: undef :: undef :: undef :: undef :: undef :: undef :: undef :: undef :: undef :: undef :: undef :: undef :: undef :: undef :: undef :: undef :: undef :: undef :: undef :: undef :: undef :: undef :: undef :: undef :: undef :: undef :: undef :: undef :: undef :: undef :: undef :: undef :: undef :: undef :: undef :: undef :: undef :: undef :: undef :: undef :: undef :: undef :: undef :: undef :: undef :: undef :: undef :: undef :: undef :: undef :: undef :: undef :: undef :: undef :: undef :: undef :: undef :: undef :: undef :: undef :: undef :: undef :: undef :: undef :: undef :: undef :: undef :: undef :: undef :: undef :: undef :: undef :: undef :: undef :: undef :: undef :: undef :: undef :: undef :: undef :: undef :: undef :: undef :: undef :: undef :: []).toArray, []⟩ u) := by
      intro u bA bJ BW KS XA NA XJ NJ NEAJ
      rw [hG]
      have hS : u.cell? ⟨bs, 0, none⟩ = some (.slice a0 xs.length c0) ∧ u.cell? ⟨bs, 1, none⟩ = some (.int .u8 (N0 : Int)) ∧ u.cell? ⟨bs, 2, none⟩ = some (.slice a1 ys.length c1) ∧ u.cell? ⟨bs, 3, none⟩ = some (.int .u8 (N1 : Int)) ∧ u.cell? ⟨bs, 4, none⟩ = some (.slice a2 zs.length c2) ∧ u.cell? ⟨bs, 5, none⟩ = some (.int .u8 (N2 : Int)) := box6v KS.out
      refine wpAnyH_ready (rs := [2, 10]) (by kernel_rfl) (by simp) ?_
      refine AllReadyH.cons rfl (fun K hK => ?_) (AllReadyH.cons rfl (fun K hK => ?_) (AllReadyH.nil))
      · try simp only [Act.put, List.getElem_toArray, List.getElem_cons_zero, List.getElem_cons_succ, List.setIfInBounds_toArray, List.set_cons_zero, List.set_cons_succ]
        go_simp
        refine (lmade_any u _ xs N0 (HS0.out.below BW.out)).mono ?_
        rintro e u1 ⟨⟨aA, cA, tA, rfl, ok, bl, hM⟩, hb⟩
        have DA := Lib.hid (hM (fun q => q = bA ∨ q = bJ) (fun q hq => by have h0 := heap_lt XA.out; have h2 := heap_lt XJ.out; omega))
        have OKA := Lib.hid ok; have BLA := Lib.hid bl
        replace KS : Hid (u1.heap[bs]? = some (.cells #[.slice a0 xs.length c0, .int .u8 (N0 : Int), .slice a1 ys.length c1, .int .u8 (N1 : Int), .slice a2 zs.length c2, .int .u8 (N2 : Int)] 57 (0, 0))) := heap_below hb KS.out
        replace XA := Lib.hid (heap_below hb XA.out)
        replace XJ := Lib.hid (heap_below hb XJ.out)
        replace BW := Lib.hid (BW.out.trans (hb.mono BW.out.size))
        clear hM hb ok bl
        refine hK.out _ _ (box6v KS.out) (fun hS => ?_)
        clear hK K
        try simp only [Act.put, List.getElem_toArray, List.getElem_cons_zero, List.getElem_cons_succ, List.setIfInBounds_toArray, List.set_cons_zero, List.set_cons_succ]
        rw [← hG]
        exact st1_02.out u1 aA cA tA bA bJ BW KS DA OKA BLA XA NA XJ NJ NEAJ
      · try simp only [Act.put, List.getElem_toArray, List.getElem_cons_zero, List.getElem_cons_succ, List.setIfInBounds_toArray, List.set_cons_zero, List.set_cons_succ]
        obtain ⟨u1, bG, eX, hBX, zX, hX, BX⟩ := laid u dg0 28
        have NG : Hid (bs + 1 ≤ bG) := by show _ ≤ _; have := heap_lt KS.out; omega
        have NEAG : Hid (bA ≠ bG) := by have h := heap_lt XA.out; show _ ≠ _; omega
        have NEGJ : Hid (bG ≠ bJ) := by have h := heap_lt XJ.out; show _ ≠ _; omega
        replace XA := Lib.hid (heap_below BX XA.out)
        replace XJ := Lib.hid (heap_below BX XJ.out)
        replace KS : Hid (u1.heap[bs]? = some (.cells #[.slice a0 xs.length c0, .int .u8 (N0 : Int), .slice a1 ys.length c1, .int .u8 (N1 : Int), .slice a2 zs.length c2, .int .u8 (N2 : Int)] 57 (0, 0))) := heap_below BX KS.out
        have XG := Lib.hid hX
        replace BW := Lib.hid (BW.out.trans (BX.mono BW.out.size))
        go_simp
        clear hX BX eX hBX zX
        refine hK.out _ _ (box6v KS.out) (fun hS => ?_)
        clear hK K
        try simp only [Act.put, List.getElem_toArray, List.getElem_cons_zero, List.getElem_cons_succ, List.setIfInBounds_toArray, List.set_cons_zero, List.set_cons_succ]
        rw [← hG]
        exact st0_012.out u1 bA bG bJ BW KS XA NA XG NG XJ NJ NEAG NEAJ NEGJ
    have st0_12 : Hid (∀ (u : World) (bG : Nat) (bJ : Nat), Hid (Below w.heap.size w u) → Hid (u.heap[bs]? = some (.cells #[.slice a0 xs.length c0, .int .u8 (N0 : Int), .slice a1 ys.length c1, .int .u8 (N1 : Int), .slice a2 zs.length c2, .int .u8 (N2 : Int)] 57 (0, 0))) → Hid (u.heap[bG]? = some (.cells dg0 28 (0, 0))) → Hid (bs + 1 ≤ bG) → Hid (u.heap[bJ]? = some (.cells dg0 28 (0, 0))) → Hid (bs + 1 ≤ bJ) → Hid (bG ≠ bJ) → G 7 #[true, true, false, true, true, false, true, true, false, false, true, true, false, false, false] ⟨((.agg #[.slice a0 xs.length c0, .int .u8 (N0 : Int), .slice a1 ys.length c1, .int .u8 (N1 : Int), .slice a2 zs.length c2, .int .u8 (N2 : Int)]) :: .int .u64 (q : Int) :: (.pointer (some ⟨bs, 0, none⟩)) :: undef :: .bool false :: .bool true :: undef :: (.pointer (some ⟨bG, 0, none⟩)) :: (.pointer (some ⟨bJ, 0, none⟩)) :: undef :: undef :: undef :: undef :: undef :: undef :: undef :: undef :: undef :: undef :: undef :: undef :: undef :: undef :: undef :: undef :: .bool true :: (.pointer (some ⟨bs, 0, none⟩)) :: (.agg #[.slice a0 xs.length c0, .int .u8 (N0 : Int)]) :: undef :: (.pointer (some ⟨bs, 2, none⟩)) :: (.agg #[.slice a1 ys.length c1, .int .u8 (N1 : Int)]) :: undef :: (.pointer (some ⟨bs, 4, none⟩)) :: (.agg #[.slice a2 zs.length c2, .int .u8 (N2 : Int)]) :: undef :: undef :: undef :: undef :: undef :: undef :: undef :: undef :: undef :: undef :: undef :: undef :: undef :: undef :: undef :: undef :: undef :: undef :: undef :: undef :: undef :: undef :: undef :: undef :: undef :: undef :: undef :: undef :: undef :: undef :: undef :: undef :: undef :: undef :: undef :: undef :: undef :: undef :: undef :: undef :: undef :: undef :: undef :: undef :: undef :: undef :: undef :: undef :: undef :: undef :: undef :: undef :: undef :: undef :: undef :: undef :: undef :: undef :: undef :: undef :: undef :: undef :: undef :: undef :: undef :: undef :: undef :: undef :: undef :: undef :: undef :: undef :: undef :: undef :: undef :: undef :: undef :: undef :: undef :: undef :: undef :: undef :: undef :: undef :: undef :: undef :: undef :: undef :: undef :: undef :: undef :: undef :: undef :: undef :: undef :: undef :: undef :: undef :: undef :: undef :: undef :: undef :: undef :: undef :: undef :: undef :: undef :: undef :: undef :: undef :: []).toArray, []⟩ u) := by
      intro u bG bJ BW KS XG NG XJ NJ NEGJ
      rw [hG]
      have hS : u.cell? ⟨bs, 0, none⟩ = some (.slice a0 xs.length c0) ∧ u.cell? ⟨bs, 1, none⟩ = some (.int .u8 (N0 : Int)) ∧ u.cell? ⟨bs, 2, none⟩ = some (.slice a1 ys.length c1) ∧ u.cell? ⟨bs, 3, none⟩ = some (.int .u8 (N1 : Int)) ∧ u.cell? ⟨bs, 4, none⟩ = some (.slice a2 zs.length c2) ∧ u.cell? ⟨bs, 5, none⟩ = some (.int .u8 (N2 : Int)) := box6v KS.out
      refine wpAnyH_ready (rs := [2, 9]) (by kernel_rfl) (by simp) ?_
      refine AllReadyH.cons rfl (fun K hK => ?_) (AllReadyH.cons rfl (fun K hK => ?_) (AllReadyH.nil))
      · try simp only [Act.put, List.getElem_toArray, List.getElem_cons_zero, List.getElem_cons_succ, List.setIfInBounds_toArray, List.set_cons_zero, List.set_cons_succ]
        go_simp
        refine (lmade_any u _ xs N0 (HS0.out.below BW.out)).mono ?_
        rintro e u1 ⟨⟨aA, cA, tA, rfl, ok, bl, hM⟩, hb⟩
        have DA := Lib.hid (hM (fun q => q = bG ∨ q = bJ) (fun q hq => by have h1 := heap_lt XG.out; have h2 := heap_lt XJ.out; omega))
        have OKA := Lib.hid ok; have BLA := Lib.hid bl
        replace KS : Hid (u1.heap[bs]? = some (.cells #[.slice a0 xs.length c0, .int .u8 (N0 : Int), .slice a1 ys.length c1, .int .u8 (N1 : Int), .slice a2 zs.length c2, .int .u8 (N2 : Int)] 57 (0, 0))) := heap_below hb KS.out
        replace XG := Lib.hid (heap_below hb XG.out)
        replace XJ := Lib.hid (heap_below hb XJ.out)
        replace BW := Lib.hid (BW.out.trans (hb.mono BW.out.size))
        clear hM hb ok bl
        refine hK.out _ _ (box6v KS.out) (fun hS => ?_)
        clear hK K
        try simp only [Act.put, List.getElem_toArray, List.getElem_cons_zero, List.getElem_cons_succ, List.setIfInBounds_toArray, List.set_cons_zero, List.set_cons_succ]
        rw [← hG]
        exact st1_12.out u1 aA cA tA bG bJ BW KS DA OKA BLA XG NG XJ NJ NEGJ
      · try simp only [Act.put, List.getElem_toArray, List.getElem_cons_zero, List.getElem_cons_succ, List.setIfInBounds_toArray, List.set_cons_zero, List.set_cons_succ]
        obtain ⟨u1, bA, eX, hBX, zX, hX, BX⟩ := laid u dg0 28
        have NA : Hid (bs + 1 ≤ bA) := by show _ ≤ _; have := heap_lt KS.out; omega
        have NEAG : Hid (bA ≠ bG) := by have h := heap_lt XG.out; show _ ≠ _; omega
        have NEAJ : Hid (bA ≠ bJ) := by have h := heap_lt XJ.out; show _ ≠ _; omega
        replace XG := Lib.hid (heap_below BX XG.out)
        replace XJ := Lib.hid (heap_below BX XJ.out)
        replace KS : Hid (u1.heap[bs]? = some (.cells #[.slice a0 xs.length c0, .int .u8 (N0 : Int), .slice a1 ys.length c1, .int .u8 (N1 : Int), .slice a2 zs.length c2, .int .u8 (N2 : Int)] 57 (0, 0))) := heap_below BX KS.out
        have XA := Lib.hid hX
        replace BW := Lib.hid (BW.out.trans (BX.mono BW.out.size))
        go_simp
        clear hX BX eX hBX zX
        refine hK.out _ _ (box6v KS.out) (fun hS => ?_)
        clear hK K
        try simp only [Act.put, List.getElem_toArray, List.getElem_cons_zero, List.getElem_cons_succ, List.setIfInBounds_toArray, List.set_cons_zero, List.set_cons_succ]
        rw [← hG]
        exact st0_012.out u1 bA bG bJ BW KS XA NA XG NG XJ NJ NEAG NEAJ NEGJ
    have st0_0 : Hid (∀ (u : World) (bA : Nat), Hid (Below w.heap.size w u) → Hid (u.heap[bs]? = some (.cells #[.slice a0 xs.length c0, .int .u8 (N0 : Int), .slice a1 ys.length c1, .int .u8 (N1 : Int), .slice a2 zs.length c2, .int .u8 (N2 : Int)] 57 (0, 0))) → Hid (u.heap[bA]? = some (.cells dg0 28 (0, 0))) → Hid (bs + 1 ≤ bA) → G 8 #[true, true, false, true, true, false, true, true, false, true, false, false, false, false, false] ⟨((.agg #[.slice a0 xs.length c0, .int .u8 (N0 : Int), .slice a1 ys.length c1, .int .u8 (N1 : Int), .slice a2 zs.length c2, .int .u8 (N2 : Int)]) :: .int .u64 (q : Int) :: (.pointer (some ⟨bs, 0, none⟩)) :: undef :: .bool false :: .bool true :: (.pointer (some ⟨bA, 0, none⟩)) :: undef :: undef :: undef :: undef :: undef :: undef :: undef :: undef :: undef :: undef :: undef :: undef :: undef :: undef :: undef :: undef :: undef :: undef :: .bool true :: (.pointer (some ⟨bs, 0, none⟩)) :: (.agg #[.slice a0 xs.length c0, .int .u8 (N0 : Int)]) :: undef :: (.pointer (some ⟨bs, 2, none⟩)) :: (.agg #[.slice a1 ys.length c1, .int .u8 (N1 : Int)]) :: undef :: (.pointer (some ⟨bs, 4, none⟩)) :: (.agg #[.slice a2 zs.length c2, .int .u8 (N2 : Int)]) :: undef :: undef :: undef :: undef :: undef :: undef :: undef :: undef :: undef :: undef :: undef :: undef :: undef :: undef :: undef :: undef :: undef :: undef :: undef :: undef :: undef :: undef :: undef :: undef :: undef :: undef :: undef :: undef :: undef :: undef :: undef :: undef :: undef :: undef :: undef :: undef :: undef :: undef :: undef :: undef :: undef :: undef :: undef :: undef :: undef :: undef :: undef :: undef :: undef :: undef :: undef :: undef :: undef :: undef :: undef :: undef :: undef :: undef :: undef :: undef :: undef :: undef :: undef :: undef :: undef :: undef :: undef :: undef :: undef :: undef :: undef :: undef :: undef :: undef :: undef :: undef :: undef :: undef :: undef :: undef :: undef :: undef :: undef :: undef :: undef :: undef :: undef :: undef :: undef :: undef :: undef :: undef :: undef :: undef :: undef :: undef :: undef :: undef :: undef :: undef :: undef :: undef :: undef :: undef :: undef :: undef :: undef :: undef :: undef :: undef :: []).toArray, []⟩ u) := by
      intro u bA BW KS XA NA
      rw [hG]
      have hS : u.cell? ⟨bs, 0, none⟩ = some (.slice a0 xs.length c0) ∧ u.cell? ⟨bs, 1, none⟩ = some (.int .u8 (N0 : Int)) ∧ u.cell? ⟨bs, 2, none⟩ = some (.slice a1 ys.length c1) ∧ u.cell? ⟨bs, 3, none⟩ = some (.int .u8 (N1 : Int)) ∧ u.cell? ⟨bs, 4, none⟩ = some (.slice a2 zs.length c2) ∧ u.cell? ⟨bs, 5, none⟩ = some (.int .u8 (N2 : Int)) := box6v KS.out
      refine wpAnyH_ready (rs := [2, 10, 11]) (by kernel_rfl) (by simp) ?_
      refine AllReadyH.cons rfl (fun K hK => ?_) (AllReadyH.cons rfl (fun K hK => ?_) (AllReadyH.cons rfl (fun K hK => ?_) (AllReadyH.nil)))
      · try simp only [Act.put, List.getElem_toArray, List.getElem_cons_zero, List.getElem_cons_succ, List.setIfInBounds_toArray, List.set_cons_zero, List.set_cons_succ]
        go_simp
        refine (lmade_any u _ xs N0 (HS0.out.below BW.out)).mono ?_
        rintro e u1 ⟨⟨aA, cA, tA, rfl, ok, bl, hM⟩, hb⟩
        have DA := Lib.hid (hM (fun q => q = bA) (fun q hq => by have h0 := heap_lt XA.out; omega))
        have OKA := Lib.hid ok; have BLA := Lib.hid bl
        replace KS : Hid (u1.heap[bs]? = some (.cells #[.slice a0 xs.length c0, .int .u8 (N0 : Int), .slice a1 ys.length c1, .int .u8 (N1 : Int), .slice a2 zs.length c2, .int .u8 (N2 : Int)] 57 (0, 0))) := heap_below hb KS.out
        replace XA := Lib.hid (heap_below hb XA.out)
        replace BW := Lib.hid (BW.out.trans (hb.mono BW.out.size))
        clear hM hb ok bl
        refine hK.out _ _ (box6v KS.out) (fun hS => ?_)
        clear hK K
        try simp only [Act.put, List.getElem_toArray, List.getElem_cons_zero, List.getElem_cons_succ, List.setIfInBounds_toArray, List.set_cons_zero, List.set_cons_succ]
        rw [← hG]
        exact st1_0.out u1 aA cA tA bA BW KS DA OKA BLA XA NA
      · try simp only [Act.put, List.getElem_toArray, List.getElem_cons_zero, List.getElem_cons_succ, List.setIfInBounds_toArray, List.set_cons_zero, List.set_cons_succ]
        obtain ⟨u1, bG, eX, hBX, zX, hX, BX⟩ := laid u dg0 28
        have NG : Hid (bs + 1 ≤ bG) := by show _ ≤ _; have := heap_lt KS.out; omega
        have NEAG : Hid (bA ≠ bG) := by have h := heap_lt XA.out; show _ ≠ _; omega
        replace XA := Lib.hid (heap_below BX XA.out)
        replace KS : Hid (u1.heap[bs]? = some (.cells #[.slice a0 xs.length c0, .int .u8 (N0 : Int), .slice a1 ys.length c1, .int .u8 (N1 : Int), .slice a2 zs.length c2, .int .u8 (N2 : Int)] 57 (0, 0))) := heap_below BX KS.out
        have XG := Lib.hid hX
        replace BW := Lib.hid (BW.out.trans (BX.mono BW.out.size))
        go_simp
        clear hX BX eX hBX zX
        refine hK.out _ _ (box6v KS.out) (fun hS => ?_)
        clear hK K
        try simp only [Act.put, List.getElem_toArray, List.getElem_cons_zero, List.getElem_cons_succ, List.setIfInBounds_toArray, List.set_cons_zero, List.set_cons_succ]
        rw [← hG]
        exact st0_01.out u1 bA bG BW KS XA NA XG NG NEAG
      · try simp only [Act.put, List.getElem_toArray, List.getElem_cons_zero, List.getElem_cons_succ, List.setIfInBounds_toArray, List.set_cons_zero, List.set_cons_succ]
        obtain ⟨u1, bJ, eX, hBX, zX, hX, BX⟩ := laid u dg0 28
        have NJ : Hid (bs + 1 ≤ bJ) := by show _ ≤ _; have := heap_lt KS.out; omega
        have NEAJ : Hid (bA ≠ bJ) := by have h := heap_lt XA.out; show _ ≠ _; omega
        replace XA := Lib.hid (heap_below BX XA.out)
        replace KS : Hid (u1.heap[bs]? = some (.cells #[.slice a0 xs.length c0, .int .u8 (N0 : Int), .slice a1 ys.length c1, .int .u8 (N1 : Int), .slice a2 zs.length c2, .int .u8 (N2 : Int)] 57 (0, 0))) := heap_below BX KS.out
        have XJ := Lib.hid hX
        replace BW := Lib.hid (BW.out.trans (BX.mono BW.out.size))
        go_simp
        clear hX BX eX hBX zX
        refine hK.out _ _ (box6v KS.out) (fun hS => ?_)
        clear hK K
        try simp only [Act.put, List.getElem_toArray, List.getElem_cons_zero, List.getElem_cons_succ, List.setIfInBounds_toArray, List.set_cons_zero, List.set_cons_succ]
        rw [← hG]
        exact st0_02.out u1 bA bJ BW KS XA NA XJ NJ NEAJ
    have st0_1 : Hid (∀ (u : World) (bG : Nat), Hid (Below w.heap.size w u) → Hid (u.heap[bs]? = some (.cells #[.slice a0 xs.length c0, .int .u8 (N0 : Int), .slice a1 ys.length c1, .int .u8 (N1 : Int), .slice a2 zs.length c2, .int .u8 (N2 : Int)] 57 (0, 0))) → Hid (u.heap[bG]? = some (.cells dg0 28 (0, 0))) → Hid (bs + 1 ≤ bG) → G 8 #[true, true, false, true, true, false, true, true, false, false, true, false, false, false, false] ⟨((.agg #[.slice a0 xs.length c0, .int .u8 (N0 : Int), .slice a1 ys.length c1, .int .u8 (N1 : Int), .slice a2 zs.length c2, .int .u8 (N2 : Int)]) :: .int .u64 (q : Int) :: (.pointer (some ⟨bs, 0, none⟩)) :: undef :: .bool false :: .bool true :: undef :: (.pointer (some ⟨bG, 0, none⟩)) :: undef :: undef :: undef :: undef :: undef :: undef :: undef :: undef :: undef :: undef :: undef :: undef :: undef :: undef :: undef :: undef :: undef :: .bool true :: (.pointer (some ⟨bs, 0, none⟩)) :: (.agg #[.slice a0 xs.length c0, .int .u8 (N0 : Int)]) :: undef :: (.pointer (some ⟨bs, 2, none⟩)) :: (.agg #[.slice a1 ys.length c1, .int .u8 (N1 : Int)]) :: undef :: (.pointer (some ⟨bs, 4, none⟩)) :: (.agg #[.slice a2 zs.length c2, .int .u8 (N2 : Int)]) :: undef :: undef :: undef :: undef :: undef :: undef :: undef :: undef :: undef :: undef :: undef :: undef :: undef :: undef :: undef :: undef :: undef :: undef :: undef :: undef :: undef :: undef :: undef :: undef :: undef :: undef :: undef :: undef :: undef :: undef :: undef :: undef :: undef :: undef :: undef :: undef :: undef :: undef :: undef :: undef :: undef :: undef :: undef :: undef :: undef :: undef :: undef :: undef :: undef :: undef :: undef :: undef :: undef :: undef :: undef :: undef :: undef :: undef :: undef :: undef :: undef :: undef :: undef :: undef :: undef :: undef :: undef :: undef :: undef :: undef :: undef :: undef :: undef :: undef :: undef :: undef :: undef :: undef :: undef :: undef :: undef :: undef :: undef :: undef :: undef :: undef :: undef :: undef :: undef :: undef :: undef :: undef :: undef :: undef :: undef :: undef :: undef :: undef :: undef :: undef :: undef :: undef :: undef :: undef :: undef :: undef :: undef :: undef :: undef :: undef :: []).toArray, []⟩ u) := by
      intro u bG BW KS XG NG
      rw [hG]
      have hS : u.cell? ⟨bs, 0, none⟩ = some (.slice a0 xs.length c0) ∧ u.cell? ⟨bs, 1, none⟩ = some (.int .u8 (N0 : Int)) ∧ u.cell? ⟨bs, 2, none⟩ = some (.slice a1 ys.length c1) ∧ u.cell? ⟨bs, 3, none⟩ = some (.int .u8 (N1 : Int)) ∧ u.cell? ⟨bs, 4, none⟩ = some (.slice a2 zs.length c2) ∧ u.cell? ⟨bs, 5, none⟩ = some (.int .u8 (N2 : Int)) := box6v KS.out
      refine wpAnyH_ready (rs := [2, 9, 11]) (by kernel_rfl) (by simp) ?_
      refine AllReadyH.cons rfl (fun K hK => ?_) (AllReadyH.cons rfl (fun K hK => ?_) (AllReadyH.cons rfl (fun K hK => ?_) (AllReadyH.nil)))
      · try simp only [Act.put, List.getElem_toArray, List.getElem_cons_zero, List.getElem_cons_succ, List.setIfInBounds_toArray, List.set_cons_zero, List.set_cons_succ]
        go_simp
        refine (lmade_any u _ xs N0 (HS0.out.below BW.out)).mono ?_
        rintro e u1 ⟨⟨aA, cA, tA, rfl, ok, bl, hM⟩, hb⟩
        have DA := Lib.hid (hM (fun q => q = bG) (fun q hq => by have h1 := heap_lt XG.out; omega))
        have OKA := Lib.hid ok; have BLA := Lib.hid bl
        replace KS : Hid (u1.heap[bs]? = some (.cells #[.slice a0 xs.length c0, .int .u8 (N0 : Int), .slice a1 ys.length c1, .int .u8 (N1 : Int), .slice a2 zs.length c2, .int .u8 (N2 : Int)] 57 (0, 0))) := heap_below hb KS.out
        replace XG := Lib.hid (heap_below hb XG.out)
        replace BW := Lib.hid (BW.out.trans (hb.mono BW.out.size))
        clear hM hb ok bl
        refine hK.out _ _ (box6v KS.out) (fun hS => ?_)
        clear hK K
        try simp only [Act.put, List.getElem_toArray, List.getElem_cons_zero, List.getElem_cons_succ, List.setIfInBounds_toArray, List.set_cons_zero, List.set_cons_succ]
        rw [← hG]
        exact st1_1.out u1 aA cA tA bG BW KS DA OKA BLA XG NG
      · try simp only [Act.put, List.getElem_toArray, List.getElem_cons_zero, List.getElem_cons_succ, List.setIfInBounds_toArray, List.set_cons_zero, List.set_cons_succ]
        obtain ⟨u1, bA, eX, hBX, zX, hX, BX⟩ := laid u dg0 28
        have NA : Hid (bs + 1 ≤ bA) := by show _ ≤ _; have := heap_lt KS.out; omega
        have NEAG : Hid (bA ≠ bG) := by have h := heap_lt XG.out; show _ ≠ _; omega
        replace XG := Lib.hid (heap_below BX XG.out)
        replace KS : Hid (u1.heap[bs]? = some (.cells #[.slice a0 xs.length c0, .int .u8 (N0 : Int), .slice a1 ys.length c1, .int .u8 (N1 : Int), .slice a2 zs.length c2, .int .u8 (N2 : Int)] 57 (0, 0))) := heap_below BX KS.out
        have XA := Lib.hid hX
        replace BW := Lib.hid (BW.out.trans (BX.mono BW.out.size))
        go_simp
        clear hX BX eX hBX zX
        refine hK.out _ _ (box6v KS.out) (fun hS => ?_)
        clear hK K
        try simp only [Act.put, List.getElem_toArray, List.getElem_cons_zero, List.getElem_cons_succ, List.setIfInBounds_toArray, List.set_cons_zero, List.set_cons_succ]
        rw [← hG]
        exact st0_01.out u1 bA bG BW KS XA NA XG NG NEAG
      · try simp only [Act.put, List.getElem_toArray, List.getElem_cons_zero, List.getElem_cons_succ, List.setIfInBounds_toArray, List.set_cons_zero, List.set_cons_succ]
        obtain ⟨u1, bJ, eX, hBX, zX, hX, BX⟩ := laid u dg0 28
        have NJ : Hid (bs + 1 ≤ bJ) := by show _ ≤ _; have := heap_lt KS.out; omega
        have NEGJ : Hid (bG ≠ bJ) := by have h := heap_lt XG.out; show _ ≠ _; omega
        replace XG := Lib.hid (heap_below BX XG.out)
        replace KS : Hid (u1.heap[bs]? = some (.cells #[.slice a0 xs.length c0, .int .u8 (N0 : Int), .slice a1 ys.length c1, .int .u8 (N1 : Int), .slice a2 zs.length c2, .int .u8 (N2 : Int)] 57 (0, 0))) := heap_below BX KS.out
        have XJ := Lib.hid hX
        replace BW := Lib.hid (BW.out.trans (BX.mono BW.out.size))
        go_simp
        clear hX BX eX hBX zX
        refine hK.out _ _ (box6v KS.out) (fun hS => ?_)
        clear hK K
        try simp only [Act.put, List.getElem_toArray, List.getElem_cons_zero, List.getElem_cons_succ, List.setIfInBounds_toArray, List.set_cons_zero, List.set_cons_succ]
        rw [← hG]
        exact st0_12.out u1 bG bJ BW KS XG NG XJ NJ NEGJ
    have st0_2 : Hid (∀ (u : World) (bJ : Nat), Hid (Below w.heap.size w u) → Hid (u.heap[bs]? = some (.cells #[.slice a0 xs.length c0, .int .u8 (N0 : Int), .slice a1 ys.length c1, .int .u8 (N1 : Int), .slice a2 zs.length c2, .int .u8 (N2 : Int)] 57 (0, 0))) → Hid (u.heap[bJ]? = some (.cells dg0 28 (0, 0))) → Hid (bs + 1 ≤ bJ) → G 8 #[true, true, false, true, true, false, true, true, false, false, false, true, false, false, false] ⟨((.agg #[.slice a0 xs.length c0, .int .u8 (N0 : Int), .slice a1 ys.length c1, .int .u8 (N1 : Int), .slice a2 zs.length c2, .int .u8 (N2 : Int)]) :: .int .u64 (q : Int) :: (.pointer (some ⟨bs, 0, none⟩)) :: undef :: .bool false :: .bool true :: undef :: undef :: (.pointer (some ⟨bJ, 0, none⟩)) :: undef :: undef :: undef :: undef :: undef :: undef :: undef :: undef :: undef :: undef :: undef :: undef :: undef :: undef :: undef :: undef :: .bool true :: (.pointer (some ⟨bs, 0, none⟩)) :: (.agg #[.slice a0 xs.length c0, .int .u8 (N0 : Int)]) :: undef :: (.pointer (some ⟨bs, 2, none⟩)) :: (.agg #[.slice a1 ys.length c1, .int .u8 (N1 : Int)]) :: undef :: (.pointer (some ⟨bs, 4, none⟩)) :: (.agg #[.slice a2 zs.length c2, .int .u8 (N2 : Int)]) :: undef :: undef :: undef :: undef :: undef :: undef :: undef :: undef :: undef :: undef :: undef :: undef :: undef :: undef :: undef :: undef :: undef :: undef :: undef :: undef :: undef :: undef :: undef :: undef :: undef :: undef :: undef :: undef :: undef :: undef :: undef :: undef :: undef :: undef :: undef :: undef :: undef :: undef :: undef :: undef :: undef :: undef :: undef :: undef :: undef :: undef :: undef :: undef :: undef :: undef :: undef :: undef :: undef :: undef :: undef :: undef :: undef :: undef :: undef :: undef :: undef :: undef :: undef :: undef :: undef :: undef :: undef :: undef :: undef :: undef :: undef :: undef :: undef :: undef :: undef :: undef :: undef :: undef :: undef :: undef :: undef :: undef :: undef :: undef :: undef :: undef :: undef :: undef :: undef :: undef :: undef :: undef :: undef :: undef :: undef :: undef :: undef :: undef :: undef :: undef :: undef :: undef :: undef :: undef :: undef :: undef :: undef :: undef :: undef :: undef :: []).toArray, []⟩ u) := by
      intro u bJ BW KS XJ NJ
      rw [hG]
      have hS : u.cell? ⟨bs, 0, none⟩ = some (.slice a0 xs.length c0) ∧ u.cell? ⟨bs, 1, none⟩ = some (.int .u8 (N0 : Int)) ∧ u.cell? ⟨bs, 2, none⟩ = some (.slice a1 ys.length c1) ∧ u.cell? ⟨bs, 3, none⟩ = some (.int .u8 (N1 : Int)) ∧ u.cell? ⟨bs, 4, none⟩ = some (.slice a2 zs.length c2) ∧ u.cell? ⟨bs, 5, none⟩ = some (.int .u8 (N2 : Int)) := box6v KS.out
      refine wpAnyH_ready (rs := [2, 9, 10]) (by kernel_rfl) (by simp) ?_
      refine AllReadyH.cons rfl (fun K hK => ?_) (AllReadyH.cons rfl (fun K hK => ?_) (AllReadyH.cons rfl (fun K hK => ?_) (AllReadyH.nil)))
      · try simp only [Act.put, List.getElem_toArray, List.getElem_cons_zero, List.getElem_cons_succ, List.setIfInBounds_toArray, List.set_cons_zero, List.set_cons_succ]
        go_simp
        refine (lmade_any u _ xs N0 (HS0.out.below BW.out)).mono ?_
        rintro e u1 ⟨⟨aA, cA, tA, rfl, ok, bl, hM⟩, hb⟩
        have DA := Lib.hid (hM (fun q => q = bJ) (fun q hq => by have h2 := heap_lt XJ.out; omega))
        have OKA := Lib.hid ok; have BLA := Lib.hid bl
        replace KS : Hid (u1.heap[bs]? = some (.cells #[.slice a0 xs.length c0, .int .u8 (N0 : Int), .slice a1 ys.length c1, .int .u8 (N1 : Int), .slice a2 zs.length c2, .int .u8 (N2 : Int)] 57 (0, 0))) := heap_below hb KS.out
        replace XJ := Lib.hid (heap_below hb XJ.out)
        replace BW := Lib.hid (BW.out.trans (hb.mono BW.out.size))
        clear hM hb ok bl
        refine hK.out _ _ (box6v KS.out) (fun hS => ?_)
        clear hK K
        try simp only [Act.put, List.getElem_toArray, List.getElem_cons_zero, List.getElem_cons_succ, List.setIfInBounds_toArray, List.set_cons_zero, List.set_cons_succ]
        rw [← hG]
        exact st1_2.out u1 aA cA tA bJ BW KS DA OKA BLA XJ NJ
      · try simp only [Act.put, List.getElem_toArray, List.getElem_cons_zero, List.getElem_cons_succ, List.setIfInBounds_toArray, List.set_cons_zero, List.set_cons_succ]
        obtain ⟨u1, bA, eX, hBX, zX, hX, BX⟩ := laid u dg0 28
        have NA : Hid (bs + 1 ≤ bA) := by show _ ≤ _; have := heap_lt KS.out; omega
        have NEAJ : Hid (bA ≠ bJ) := by have h := heap_lt XJ.out; show _ ≠ _; omega
        replace XJ := Lib.hid (heap_below BX XJ.out)
        replace KS : Hid (u1.heap[bs]? = some (.cells #[.slice a0 xs.length c0, .int .u8 (N0 : Int), .slice a1 ys.length c1, .int .u8 (N1 : Int), .slice a2 zs.length c2, .int .u8 (N2 : Int)] 57 (0, 0))) := heap_below BX KS.out
        have XA := Lib.hid hX
        replace BW := Lib.hid (BW.out.trans (BX.mono BW.out.size))
        go_simp
        clear hX BX eX hBX zX
        refine hK.out _ _ (box6v KS.out) (fun hS => ?_)
        clear hK K
        try simp only [Act.put, List.getElem_toArray, List.getElem_cons_zero, List.getElem_cons_succ, List.setIfInBounds_toArray, List.set_cons_zero, List.set_cons_succ]
        rw [← hG]
        exact st0_02.out u1 bA bJ BW KS XA NA XJ NJ NEAJ
      · try simp only [Act.put, List.getElem_toArray, List.getElem_cons_zero, List.getElem_cons_succ, List.setIfInBounds_toArray, List.set_cons_zero, List.set_cons_succ]
        obtain ⟨u1, bG, eX, hBX, zX, hX, BX⟩ := laid u dg0 28
        have NG : Hid (bs + 1 ≤ bG) := by show _ ≤ _; have := heap_lt KS.out; omega
        have NEGJ : Hid (bG ≠ bJ) := by have h := heap_lt XJ.out; show _ ≠ _; omega
        replace XJ := Lib.hid (heap_below BX XJ.out)
        replace KS : Hid (u1.heap[bs]? = some (.cells #[.slice a0 xs.length c0, .int .u8 (N0 : Int), .slice a1 ys.length c1, .int .u8 (N1 : Int), .slice a2 zs.length c2, .int .u8 (N2 : Int)] 57 (0, 0))) := heap_below BX KS.out
        have XG := Lib.hid hX
        replace BW := Lib.hid (BW.out.trans (BX.mono BW.out.size))
        go_simp
        clear hX BX eX hBX zX
        refine hK.out _ _ (box6v KS.out) (fun hS => ?_)
        clear hK K
        try simp only [Act.put, List.getElem_toArray, List.getElem_cons_zero, List.getElem_cons_succ, List.setIfInBounds_toArray, List.set_cons_zero, List.set_cons_succ]
        rw [← hG]
        exact st0_12.out u1 bG bJ BW KS XG NG XJ NJ NEGJ
    have st0_ : Hid (∀ (u : World) , Hid (Below w.heap.size w u) → Hid (u.heap[bs]? = some (.cells #[.slice a0 xs.length c0, .int .u8 (N0 : Int), .slice a1 ys.length c1, .int .u8 (N1 : Int), .slice a2 zs.length c2, .int .u8 (N2 : Int)] 57 (0, 0))) → G 9 #[true, true, false, true, true, false, true, true, false, false, false, false, false, false, false] ⟨((.agg #[.slice a0 xs.length c0, .int .u8 (N0 : Int), .slice a1 ys.length c1, .int .u8 (N1 : Int), .slice a2 zs.length c2, .int .u8 (N2 : Int)]) :: .int .u64 (q : Int) :: (.pointer (some ⟨bs, 0, none⟩)) :: undef :: .bool false :: .bool true :: undef :: undef :: undef :: undef :: undef :: undef :: undef :: undef :: undef :: undef :: undef :: undef :: undef :: undef :: undef :: undef :: undef :: undef :: undef :: .bool true :: (.pointer (some ⟨bs, 0, none⟩)) :: (.agg #[.slice a0 xs.length c0, .int .u8 (N0 : Int)]) :: undef :: (.pointer (some ⟨bs, 2, none⟩)) :: (.agg #[.slice a1 ys.length c1, .int .u8 (N1 : Int)]) :: undef :: (.pointer (some ⟨bs, 4, none⟩)) :: (.agg #[.slice a2 zs.length c2, .int .u8 (N2 : Int)]) :: undef :: undef :: undef :: undef :: undef :: undef :: undef :: undef :: undef :: undef :: undef :: undef :: undef :: undef :: undef :: undef :: undef :: undef :: undef :: undef :: undef :: undef :: undef :: undef :: undef :: undef :: undef :: undef :: undef :: undef :: undef :: undef :: undef :: undef :: undef :: undef :: undef :: undef :: undef :: undef :: undef :: undef :: undef :: undef :: undef :: undef :: undef :: undef :: undef :: undef :: undef :: undef :: undef :: undef :: undef :: undef :: undef :: undef :: undef :: undef :: undef :: undef :: undef :: undef :: undef :: undef :: undef :: undef :: undef :: undef :: undef :: undef :: undef :: undef :: undef :: undef :: undef :: undef :: undef :: undef :: undef :: undef :: undef :: undef :: undef :: undef :: undef :: undef :: undef :: undef :: undef :: undef :: undef :: undef :: undef :: undef :: undef :: undef :: undef :: undef :: undef :: undef :: undef :: undef :: undef :: undef :: undef :: undef :: undef :: undef :: []).toArray, []⟩ u) := by
      intro u  BW KS
      rw [hG]
      have hS : u.cell? ⟨bs, 0, none⟩ = some (.slice a0 xs.length c0) ∧ u.cell? ⟨bs, 1, none⟩ = some (.int .u8 (N0 : Int)) ∧ u.cell? ⟨bs, 2, none⟩ = some (.slice a1 ys.length c1) ∧ u.cell? ⟨bs, 3, none⟩ = some (.int .u8 (N1 : Int)) ∧ u.cell? ⟨bs, 4, none⟩ = some (.slice a2 zs.length c2) ∧ u.cell? ⟨bs, 5, none⟩ = some (.int .u8 (N2 : Int)) := box6v KS.out
      refine wpAnyH_ready (rs := [2, 9, 10, 11]) (by kernel_rfl) (by simp) ?_
      refine AllReadyH.cons rfl (fun K hK => ?_) (AllReadyH.cons rfl (fun K hK => ?_) (AllReadyH.cons rfl (fun K hK => ?_) (AllReadyH.cons rfl (fun K hK => ?_) (AllReadyH.nil))))
      · try simp only [Act.put, List.getElem_toArray, List.getElem_cons_zero, List.getElem_cons_succ, List.setIfInBounds_toArray, List.set_cons_zero, List.set_cons_succ]
        go_simp
        refine (lmade_any u _ xs N0 (HS0.out.below BW.out)).mono ?_
        rintro e u1 ⟨⟨aA, cA, tA, rfl, ok, bl, hM⟩, hb⟩
        have DA := Lib.hid (hM NoB (fun q hq => hq.elim))
        have OKA := Lib.hid ok; have BLA := Lib.hid bl
        replace KS : Hid (u1.heap[bs]? = some (.cells #[.slice a0 xs.length c0, .int .u8 (N0 : Int), .slice a1 ys.length c1, .int .u8 (N1 : Int), .slice a2 zs.length c2, .int .u8 (N2 : Int)] 57 (0, 0))) := heap_below hb KS.out
        replace BW := Lib.hid (BW.out.trans (hb.mono BW.out.size))
        clear hM hb ok bl
        refine hK.out _ _ (box6v KS.out) (fun hS => ?_)
        clear hK K
        try simp only [Act.put, List.getElem_toArray, List.getElem_cons_zero, List.getElem_cons_succ, List.setIfInBounds_toArray, List.set_cons_zero, List.set_cons_succ]
        rw [← hG]
        exact st1_.out u1 aA cA tA BW KS DA OKA BLA
      · try simp only [Act.put, List.getElem_toArray, List.getElem_cons_zero, List.getElem_cons_succ, List.setIfInBounds_toArray, List.set_cons_zero, List.set_cons_succ]
        obtain ⟨u1, bA, eX, hBX, zX, hX, BX⟩ := laid u dg0 28
        have NA : Hid (bs + 1 ≤ bA) := by show _ ≤ _; have := heap_lt KS.out; omega
        replace KS : Hid (u1.heap[bs]? = some (.cells #[.slice a0 xs.length c0, .int .u8 (N0 : Int), .slice a1 ys.length c1, .int .u8 (N1 : Int), .slice a2 zs.length c2, .int .u8 (N2 : Int)] 57 (0, 0))) := heap_below BX KS.out
        have XA := Lib.hid hX
        replace BW := Lib.hid (BW.out.trans (BX.mono BW.out.size))
        go_simp
        clear hX BX eX hBX zX
        refine hK.out _ _ (box6v KS.out) (fun hS => ?_)
        clear hK K
        try simp only [Act.put, List.getElem_toArray, List.getElem_cons_zero, List.getElem_cons_succ, List.setIfInBounds_toArray, List.set_cons_zero, List.set_cons_succ]
        rw [← hG]
        exact st0_0.out u1 bA BW KS XA NA
      · try simp only [Act.put, List.getElem_toArray, List.getElem_cons_zero, List.getElem_cons_succ, List.setIfInBounds_toArray, List.set_cons_zero, List.set_cons_succ]
        obtain ⟨u1, bG, eX, hBX, zX, hX, BX⟩ := laid u dg0 28
        have NG : Hid (bs + 1 ≤ bG) := by show _ ≤ _; have := heap_lt KS.out; omega
        replace KS : Hid (u1.heap[bs]? = some (.cells #[.slice a0 xs.length c0, .int .u8 (N0 : Int), .slice a1 ys.length c1, .int .u8 (N1 : Int), .slice a2 zs.length c2, .int .u8 (N2 : Int)] 57 (0, 0))) := heap_below BX KS.out
        have XG := Lib.hid hX
        replace BW := Lib.hid (BW.out.trans (BX.mono BW.out.size))
        go_simp
        clear hX BX eX hBX zX
        refine hK.out _ _ (box6v KS.out) (fun hS => ?_)
        clear hK K
        try simp only [Act.put, List.getElem_toArray, List.getElem_cons_zero, List.getElem_cons_succ, List.setIfInBounds_toArray, List.set_cons_zero, List.set_cons_succ]
        rw [← hG]
        exact st0_1.out u1 bG BW KS XG NG
      · try simp only [Act.put, List.getElem_toArray, List.getElem_cons_zero, List.getElem_cons_succ, List.setIfInBounds_toArray, List.set_cons_zero, List.set_cons_succ]
        obtain ⟨u1, bJ, eX, hBX, zX, hX, BX⟩ := laid u dg0 28
        have NJ : Hid (bs + 1 ≤ bJ) := by show _ ≤ _; have := heap_lt KS.out; omega
        replace KS : Hid (u1.heap[bs]? = some (.cells #[.slice a0 xs.length c0, .int .u8 (N0 : Int), .slice a1 ys.length c1, .int .u8 (N1 : Int), .slice a2 zs.length c2, .int .u8 (N2 : Int)] 57 (0, 0))) := heap_below BX KS.out
        have XJ := Lib.hid hX
        replace BW := Lib.hid (BW.out.trans (BX.mono BW.out.size))
        go_simp
        clear hX BX eX hBX zX
        refine hK.out _ _ (box6v KS.out) (fun hS => ?_)
        clear hK K
        try simp only [Act.put, List.getElem_toArray, List.getElem_cons_zero, List.getElem_cons_succ, List.setIfInBounds_toArray, List.set_cons_zero, List.set_cons_succ]
        rw [← hG]
        exact st0_2.out u1 bJ BW KS XJ NJ
    exact st0_.out u  BW KS
  clear BW KS
  rintro _ _ u0 ⟨rfl, u00, aA, cA, tA, aG, cG, tG, aJ, cJ, tJ, bA, bG, bJ, rfl, rfl, BW, KS, IA, IG, IJ, BLA, BLG, BLJ⟩
  have HA := Lib.hid IA.out.box; have DA := Lib.hid IA.out.td; have HG := Lib.hid IG.out.box; have DG := Lib.hid IG.out.td; have HJ := Lib.hid IJ.out.box; have DJ := Lib.hid IJ.out.td
  have DPA : Hid (Dep 6 tA.ev) := T.dep (T.bel_mono BLA.out (by omega))
  have DPG : Hid (Dep 6 tG.ev) := T.dep (T.bel_mono BLG.out (by omega))
  have DPJ : Hid (Dep 6 tJ.ev) := T.dep (T.bel_mono BLJ.out (by omega))
  clear IA IG IJ BLA BLG BLJ KS
  obtain ⟨ea, hea⟩ : ∃ ea, tA.ev (bits q) = ea := ⟨_, rfl⟩
  obtain ⟨eg, heg⟩ : ∃ eg, tG.ev (bits q) = eg := ⟨_, rfl⟩
  obtain ⟨ej, hej⟩ : ∃ ej, tJ.ev (bits q) = ej := ⟨_, rfl⟩
  have HEA := Lib.hid hea; have HEG := Lib.hid heg; have HEJ := Lib.hid hej
  clear hea heg hej
  go_wp2_with (fail)
  replace BW := Lib.hid (BW.out.drew)
  obtain ⟨u1, hu⟩ : ∃ u, u0.drew = u := ⟨_, rfl⟩
  have BD : Below u0.heap.size u0 u1 := by rw [← hu]; exact (Below.refl _ u0).drew
  rw [hu] at BW
  replace HA := Lib.hid (heap_below BD HA.out); replace DA := Lib.hid (DA.out.below BD)
  replace HG := Lib.hid (heap_below BD HG.out); replace DG := Lib.hid (DG.out.below BD)
  replace HJ := Lib.hid (heap_below BD HJ.out); replace DJ := Lib.hid (DJ.out.below BD)
  clear BD
  refine wp_region_held_drew (S := fun w' => w'.cell? ⟨bA, 0, none⟩ = some (.slice aA tA.canon.nodes.length cA) ∧ w'.cell? ⟨bA, 1, none⟩ = some (.int .i64 tA.canon.root) ∧ w'.cell? ⟨bG, 0, none⟩ = some (.slice aG tG.canon.nodes.length cG) ∧ w'.cell? ⟨bG, 1, none⟩ = some (.int .i64 tG.canon.root) ∧ w'.cell? ⟨bJ, 0, none⟩ = some (.slice aJ tJ.canon.nodes.length cJ) ∧ w'.cell? ⟨bJ, 1, none⟩ = some (.int .i64 tJ.canon.root)) (by kernel_rfl) (by rw [hu]; exact ⟨(box2 HA.out).1, (box2 HA.out).2, (box2 HG.out).1, (box2 HG.out).2, (box2 HJ.out).1, (box2 HJ.out).2⟩) (fun hS => ?_)
  rw [hu] at hS ⊢
  clear hu
  refine wpAnyH_take (i := 0) (v := (dval aA cA tA)) rfl (by kernel_rfl) (by kernel_rfl) (by kernel_rfl) (fun _ _ _ h => h) (Or.inl ⟨by rfl, ?_⟩) hS ?_
  · intro w hSw
    go_split_ands
    go_simp
  try simp only [Act.put, List.getElem_toArray, List.getElem_cons_zero, List.getElem_cons_succ, List.setIfInBounds_toArray, List.set_cons_zero, List.set_cons_succ]
  refine wpAnyH_take (i := 1) (v := .int .u64 (q : Int)) rfl (by kernel_rfl) (by kernel_rfl) (by kernel_rfl) (fun _ _ _ h => h) (Or.inl ⟨by rfl, ?_⟩) hS ?_
  · intro w hSw
    go_split_ands
    go_simp
  try simp only [Act.put, List.getElem_toArray, List.getElem_cons_zero, List.getElem_cons_succ, List.setIfInBounds_toArray, List.set_cons_zero, List.set_cons_succ]
  refine wpAnyH_take (i := 3) (v := (dval aG cG tG)) rfl (by kernel_rfl) (by kernel_rfl) (by kernel_rfl) (fun _ _ _ h => h) (Or.inl ⟨by rfl, ?_⟩) hS ?_
  · intro w hSw
    go_split_ands
    go_simp
  try simp only [Act.put, List.getElem_toArray, List.getElem_cons_zero, List.getElem_cons_succ, List.setIfInBounds_toArray, List.set_cons_zero, List.set_cons_succ]
  refine wpAnyH_take (i := 4) (v := .int .u64 (q : Int)) rfl (by kernel_rfl) (by kernel_rfl) (by kernel_rfl) (fun _ _ _ h => h) (Or.inl ⟨by rfl, ?_⟩) hS ?_
  · intro w hSw
    go_split_ands
    go_simp
  try simp only [Act.put, List.getElem_toArray, List.getElem_cons_zero, List.getElem_cons_succ, List.setIfInBounds_toArray, List.set_cons_zero, List.set_cons_succ]
  refine wpAnyH_take (i := 6) (v := (dval aJ cJ tJ)) rfl (by kernel_rfl) (by kernel_rfl) (by kernel_rfl) (fun _ _ _ h => h) (Or.inl ⟨by rfl, ?_⟩) hS ?_
  · intro w hSw
    go_split_ands
    go_simp
  try simp only [Act.put, List.getElem_toArray, List.getElem_cons_zero, List.getElem_cons_succ, List.setIfInBounds_toArray, List.set_cons_zero, List.set_cons_succ]
  refine wpAnyH_take (i := 7) (v := .int .u64 (q : Int)) rfl (by kernel_rfl) (by kernel_rfl) (by kernel_rfl) (fun _ _ _ h => h) (Or.inl ⟨by rfl, ?_⟩) hS ?_
  · intro w hSw
    go_split_ands
    go_simp
  try simp only [Act.put, List.getElem_toArray, List.getElem_cons_zero, List.getElem_cons_succ, List.setIfInBounds_toArray, List.set_cons_zero, List.set_cons_succ]
  refine wpAnyH_ready (rs := [2]) (by kernel_rfl) (by simp) ?_
  refine AllReadyH.cons rfl (fun K hK => ?_) AllReadyH.nil
  try simp only [Act.put, List.getElem_toArray, List.getElem_cons_zero, List.getElem_cons_succ, List.setIfInBounds_toArray, List.set_cons_zero, List.set_cons_succ]
  go_simp
  refine (holds_k DA.out q hq2 ea HEA.out).mono ?_
  rintro e1 u2 ⟨rfl, BD⟩
  replace HA := Lib.hid (heap_below BD HA.out); replace DA := Lib.hid (DA.out.below BD)
  replace HG := Lib.hid (heap_below BD HG.out); replace DG := Lib.hid (DG.out.below BD)
  replace HJ := Lib.hid (heap_below BD HJ.out); replace DJ := Lib.hid (DJ.out.below BD)
  replace BW := Lib.hid (BW.out.trans (BD.mono BW.out.size))
  clear BD
  refine hK.out _ _ (⟨(box2 HA.out).1, (box2 HA.out).2, (box2 HG.out).1, (box2 HG.out).2, (box2 HJ.out).1, (box2 HJ.out).2⟩) (fun hS => ?_)
  clear hK K
  try simp only [Act.put, List.getElem_toArray, List.getElem_cons_zero, List.getElem_cons_succ, List.setIfInBounds_toArray, List.set_cons_zero, List.set_cons_succ]
  refine wpAnyH_ready (rs := [5]) (by kernel_rfl) (by simp) ?_
  refine AllReadyH.cons rfl (fun K hK => ?_) AllReadyH.nil
  try simp only [Act.put, List.getElem_toArray, List.getElem_cons_zero, List.getElem_cons_succ, List.setIfInBounds_toArray, List.set_cons_zero, List.set_cons_succ]
  go_simp
  refine (holds_k DG.out q hq2 eg HEG.out).mono ?_
  rintro e1 u3 ⟨rfl, BD⟩
  replace HA := Lib.hid (heap_below BD HA.out); replace DA := Lib.hid (DA.out.below BD)
  replace HG := Lib.hid (heap_below BD HG.out); replace DG := Lib.hid (DG.out.below BD)
  replace HJ := Lib.hid (heap_below BD HJ.out); replace DJ := Lib.hid (DJ.out.below BD)
  replace BW := Lib.hid (BW.out.trans (BD.mono BW.out.size))
  clear BD
  refine hK.out _ _ (⟨(box2 HA.out).1, (box2 HA.out).2, (box2 HG.out).1, (box2 HG.out).2, (box2 HJ.out).1, (box2 HJ.out).2⟩) (fun hS => ?_)
  clear hK K
  try simp only [Act.put, List.getElem_toArray, List.getElem_cons_zero, List.getElem_cons_succ, List.setIfInBounds_toArray, List.set_cons_zero, List.set_cons_succ]
  refine wpAnyH_ready (rs := [8]) (by kernel_rfl) (by simp) ?_
  refine AllReadyH.cons rfl (fun K hK => ?_) AllReadyH.nil
  try simp only [Act.put, List.getElem_toArray, List.getElem_cons_zero, List.getElem_cons_succ, List.setIfInBounds_toArray, List.set_cons_zero, List.set_cons_succ]
  go_simp
  refine (holds_k DJ.out q hq2 ej HEJ.out).mono ?_
  rintro e1 u4 ⟨rfl, BD⟩
  replace HA := Lib.hid (heap_below BD HA.out); replace DA := Lib.hid (DA.out.below BD)
  replace HG := Lib.hid (heap_below BD HG.out); replace DG := Lib.hid (DG.out.below BD)
  replace HJ := Lib.hid (heap_below BD HJ.out); replace DJ := Lib.hid (DJ.out.below BD)
  replace BW := Lib.hid (BW.out.trans (BD.mono BW.out.size))
  clear BD
  refine hK.out _ _ (⟨(box2 HA.out).1, (box2 HA.out).2, (box2 HG.out).1, (box2 HG.out).2, (box2 HJ.out).1, (box2 HJ.out).2⟩) (fun hS => ?_)
  clear hK K
  try simp only [Act.put, List.getElem_toArray, List.getElem_cons_zero, List.getElem_cons_succ, List.setIfInBounds_toArray, List.set_cons_zero, List.set_cons_succ]
  refine wpAnyH_ready (rs := [9]) (by kernel_rfl) (by simp) ?_
  refine AllReadyH.cons rfl (fun K hK => ?_) AllReadyH.nil
  try simp only [Act.put, List.getElem_toArray, List.getElem_cons_zero, List.getElem_cons_succ, List.setIfInBounds_toArray, List.set_cons_zero, List.set_cons_succ]
  go_simp
  refine hK.out _ _ (⟨(box2 HA.out).1, (box2 HA.out).2, (box2 HG.out).1, (box2 HG.out).2, (box2 HJ.out).1, (box2 HJ.out).2⟩) (fun hS => ?_)
  clear hK K
  try simp only [Act.put, List.getElem_toArray, List.getElem_cons_zero, List.getElem_cons_succ, List.setIfInBounds_toArray, List.set_cons_zero, List.set_cons_succ]
  refine wpAnyH_ready (rs := [10]) (by kernel_rfl) (by simp) ?_
  refine AllReadyH.cons rfl (fun K hK => ?_) AllReadyH.nil
  try simp only [Act.put, List.getElem_toArray, List.getElem_cons_zero, List.getElem_cons_succ, List.setIfInBounds_toArray, List.set_cons_zero, List.set_cons_succ]
  go_simp
  refine hK.out _ _ (⟨(box2 HA.out).1, (box2 HA.out).2, (box2 HG.out).1, (box2 HG.out).2, (box2 HJ.out).1, (box2 HJ.out).2⟩) (fun hS => ?_)
  clear hK K
  try simp only [Act.put, List.getElem_toArray, List.getElem_cons_zero, List.getElem_cons_succ, List.setIfInBounds_toArray, List.set_cons_zero, List.set_cons_succ]
  refine wpAnyH_ready (rs := [11]) (by kernel_rfl) (by simp) ?_
  refine AllReadyH.cons rfl (fun K hK => ?_) AllReadyH.nil
  try simp only [Act.put, List.getElem_toArray, List.getElem_cons_zero, List.getElem_cons_succ, List.setIfInBounds_toArray, List.set_cons_zero, List.set_cons_succ]
  go_simp
  refine hK.out _ _ (⟨(box2 HA.out).1, (box2 HA.out).2, (box2 HG.out).1, (box2 HG.out).2, (box2 HJ.out).1, (box2 HJ.out).2⟩) (fun hS => ?_)
  clear hK K
  try simp only [Act.put, List.getElem_toArray, List.getElem_cons_zero, List.getElem_cons_succ, List.setIfInBounds_toArray, List.set_cons_zero, List.set_cons_succ]
  refine wpAnyH_done (by kernel_rfl) ?_ _
  try simp only [Act.put, List.getElem_toArray, List.getElem_cons_zero, List.getElem_cons_succ, List.setIfInBounds_toArray, List.set_cons_zero, List.set_cons_succ]
  clear hS
  obtain ⟨p0A, p1A⟩ := box2 HA.out
  go_wp2_with (fail)
  clear p0A p1A
  refine (not_t DA.out (few_of_dep DPA.out.not)).mono ?_
  rintro e w21 ⟨hR, hb21⟩
  obtain ⟨aP, cP, tP, rfl, evP, tdP, -⟩ := hR
  have EP := Lib.hid evP
  obtain ⟨w22, bP, eP, hBP, -, hP, BP⟩ := laid w21 #[.slice aP tP.canon.nodes.length cP, .int .i64 tP.canon.root] 28
  have BB := hb21.trans (BP.mono hb21.size)
  replace HA := Lib.hid (heap_below BB HA.out)
  replace DA := Lib.hid (DA.out.below BB)
  replace HG := Lib.hid (heap_below BB HG.out)
  replace DG := Lib.hid (DG.out.below BB)
  replace HJ := Lib.hid (heap_below BB HJ.out)
  replace DJ := Lib.hid (DJ.out.below BB)
  replace BW := Lib.hid (BW.out.trans (BB.mono BW.out.size))
  have HP := Lib.hid hP; have DP := Lib.hid (tdP.below BP)
  clear hb21 hP BP BB tdP
  clear evP
  obtain ⟨p0A, p1A⟩ := box2 HA.out
  obtain ⟨p0G, p1G⟩ := box2 HG.out
  go_wp2_with (with_reducible refine wpList_store_last rfl 28 (.tmp 12) (.tmp 47) rfl dg0 #[.slice aP tP.canon.nodes.length cP, .int .i64 tP.canon.root] rfl rfl sizedg rfl (by simp [Value.oneCell']) ?_)
  clear p0A p1A p0G p1G eP hBP
  refine (and_t DA.out DG.out (few_of_dep (DPA.out.and DPG.out))).mono ?_
  rintro e w23 ⟨hR, hb23⟩
  obtain ⟨aQ, cQ, tQ, rfl, evQ, tdQ, -⟩ := hR
  have EQ := Lib.hid evQ
  obtain ⟨w24, bQ, eQ, hBQ, -, hQ, BQ⟩ := laid w23 #[.slice aQ tQ.canon.nodes.length cQ, .int .i64 tQ.canon.root] 28
  have BB := hb23.trans (BQ.mono hb23.size)
  replace HA := Lib.hid (heap_below BB HA.out)
  replace DA := Lib.hid (DA.out.below BB)
  replace HG := Lib.hid (heap_below BB HG.out)
  replace DG := Lib.hid (DG.out.below BB)
  replace HJ := Lib.hid (heap_below BB HJ.out)
  replace DJ := Lib.hid (DJ.out.below BB)
  replace HP := Lib.hid (heap_below BB HP.out)
  replace DP := Lib.hid (DP.out.below BB)
  replace BW := Lib.hid (BW.out.trans (BB.mono BW.out.size))
  have HQ := Lib.hid hQ; have DQ := Lib.hid (tdQ.below BQ)
  clear hb23 hQ BQ BB tdQ
  clear evQ
  obtain ⟨p0A, p1A⟩ := box2 HA.out
  obtain ⟨p0G, p1G⟩ := box2 HG.out
  go_wp2_with (with_reducible refine wpList_store_last rfl 28 (.tmp 14) (.tmp 53) rfl dg0 #[.slice aQ tQ.canon.nodes.length cQ, .int .i64 tQ.canon.root] rfl rfl sizedg rfl (by simp [Value.oneCell']) ?_)
  clear p0A p1A p0G p1G eQ hBQ
  refine (or_t DA.out DG.out (few_of_dep (DPA.out.or DPG.out))).mono ?_
  rintro e w25 ⟨hR, hb25⟩
  obtain ⟨aR, cR, tR, rfl, evR, tdR, -⟩ := hR
  have ER := Lib.hid evR
  obtain ⟨w26, bR, eR, hBR, -, hR, BR⟩ := laid w25 #[.slice aR tR.canon.nodes.length cR, .int .i64 tR.canon.root] 28
  have BB := hb25.trans (BR.mono hb25.size)
  replace HA := Lib.hid (heap_below BB HA.out)
  replace DA := Lib.hid (DA.out.below BB)
  replace HG := Lib.hid (heap_below BB HG.out)
  replace DG := Lib.hid (DG.out.below BB)
  replace HJ := Lib.hid (heap_below BB HJ.out)
  replace DJ := Lib.hid (DJ.out.below BB)
  replace HP := Lib.hid (heap_below BB HP.out)
  replace DP := Lib.hid (DP.out.below BB)
  replace HQ := Lib.hid (heap_below BB HQ.out)
  replace DQ := Lib.hid (DQ.out.below BB)
  replace BW := Lib.hid (BW.out.trans (BB.mono BW.out.size))
  have HR := Lib.hid hR; have DR := Lib.hid (tdR.below BR)
  clear hb25 hR BR BB tdR
  clear evR
  obtain ⟨p0A, p1A⟩ := box2 HA.out
  obtain ⟨p0G, p1G⟩ := box2 HG.out
  go_wp2_with (with_reducible refine wpList_store_last rfl 28 (.tmp 16) (.tmp 59) rfl dg0 #[.slice aR tR.canon.nodes.length cR, .int .i64 tR.canon.root] rfl rfl sizedg rfl (by simp [Value.oneCell']) ?_)
  clear p0A p1A p0G p1G eR hBR
  refine (xor_t DA.out DG.out (few_of_dep (DPA.out.xor DPG.out))).mono ?_
  rintro e w27 ⟨hR, hb27⟩
  obtain ⟨aX, cX, tX, rfl, evX, tdX, -⟩ := hR
  have EX := Lib.hid evX
  obtain ⟨w28, bX, eX, hBX, -, hX, BX⟩ := laid w27 #[.slice aX tX.canon.nodes.length cX, .int .i64 tX.canon.root] 28
  have BB := hb27.trans (BX.mono hb27.size)
  replace HA := Lib.hid (heap_below BB HA.out)
  replace DA := Lib.hid (DA.out.below BB)
  replace HG := Lib.hid (heap_below BB HG.out)
  replace DG := Lib.hid (DG.out.below BB)
  replace HJ := Lib.hid (heap_below BB HJ.out)
  replace DJ := Lib.hid (DJ.out.below BB)
  replace HP := Lib.hid (heap_below BB HP.out)
  replace DP := Lib.hid (DP.out.below BB)
  replace HQ := Lib.hid (heap_below BB HQ.out)
  replace DQ := Lib.hid (DQ.out.below BB)
  replace HR := Lib.hid (heap_below BB HR.out)
  replace DR := Lib.hid (DR.out.below BB)
  replace BW := Lib.hid (BW.out.trans (BB.mono BW.out.size))
  have HX := Lib.hid hX; have DX := Lib.hid (tdX.below BX)
  clear hb27 hX BX BB tdX
  clear evX
  obtain ⟨p0A, p1A⟩ := box2 HA.out
  obtain ⟨p0G, p1G⟩ := box2 HG.out
  obtain ⟨p0J, p1J⟩ := box2 HJ.out
  go_wp2_with (with_reducible refine wpList_store_last rfl 28 (.tmp 18) (.tmp 65) rfl dg0 #[.slice aX tX.canon.nodes.length cX, .int .i64 tX.canon.root] rfl rfl sizedg rfl (by simp [Value.oneCell']) ?_)
  clear p0A p1A p0G p1G p0J p1J eX hBX
  refine (choose_t DA.out DG.out DJ.out (few_of_dep ((DPA.out.and DPG.out).or (DPA.out.not.and DPJ.out)))).mono ?_
  rintro e w29 ⟨hR, hb29⟩
  obtain ⟨aY, cY, tY, rfl, evY, tdY, -⟩ := hR
  have EY := Lib.hid evY
  obtain ⟨w30, bY, eY, hBY, -, hY, BY⟩ := laid w29 #[.slice aY tY.canon.nodes.length cY, .int .i64 tY.canon.root] 28
  have BB := hb29.trans (BY.mono hb29.size)
  replace HA := Lib.hid (heap_below BB HA.out)
  replace DA := Lib.hid (DA.out.below BB)
  replace HG := Lib.hid (heap_below BB HG.out)
  replace DG := Lib.hid (DG.out.below BB)
  replace HJ := Lib.hid (heap_below BB HJ.out)
  replace DJ := Lib.hid (DJ.out.below BB)
  replace HP := Lib.hid (heap_below BB HP.out)
  replace DP := Lib.hid (DP.out.below BB)
  replace HQ := Lib.hid (heap_below BB HQ.out)
  replace DQ := Lib.hid (DQ.out.below BB)
  replace HR := Lib.hid (heap_below BB HR.out)
  replace DR := Lib.hid (DR.out.below BB)
  replace HX := Lib.hid (heap_below BB HX.out)
  replace DX := Lib.hid (DX.out.below BB)
  replace BW := Lib.hid (BW.out.trans (BB.mono BW.out.size))
  have HY := Lib.hid hY; have DY := Lib.hid (tdY.below BY)
  clear hb29 hY BY BB tdY
  clear evY
  have VP : Hid (tP.ev (bits q) = !ea) := by show _ = _; rw [EP.out (bits q), ← HEA.out]
  have VQ : Hid (tQ.ev (bits q) = (ea && eg)) := by show _ = _; rw [EQ.out (bits q), ← HEA.out, ← HEG.out]
  have VR : Hid (tR.ev (bits q) = (ea || eg)) := by show _ = _; rw [ER.out (bits q), ← HEA.out, ← HEG.out]
  have VX : Hid (tX.ev (bits q) = (ea != eg)) := by show _ = _; rw [EX.out (bits q), ← HEA.out, ← HEG.out]
  have VY : Hid (tY.ev (bits q) = (ea && eg || !ea && ej)) := by show _ = _; rw [EY.out (bits q), ← HEA.out, ← HEG.out, ← HEJ.out]
  clear EP EQ ER EX EY HEA HEG HEJ DPA DPG DPJ
  cases ea
  · cases eg
    · cases ej
      · obtain ⟨p0Q, p1Q⟩ := box2 HQ.out
        go_wp2_with (with_reducible refine wpList_store_last rfl 28 (.tmp 20) (.tmp 72) rfl dg0 #[.slice aY tY.canon.nodes.length cY, .int .i64 tY.canon.root] rfl rfl sizedg rfl (by simp [Value.oneCell']) ?_)
        clear p0Q p1Q eY hBY
        refine (holds_k DQ.out q hq2 false VQ.out).mono ?_
        rintro e w31 ⟨rfl, hb31⟩
        replace HA := Lib.hid (heap_below hb31 HA.out)
        replace DA := Lib.hid (DA.out.below hb31)
        replace HG := Lib.hid (heap_below hb31 HG.out)
        replace DG := Lib.hid (DG.out.below hb31)
        replace HJ := Lib.hid (heap_below hb31 HJ.out)
        replace DJ := Lib.hid (DJ.out.below hb31)
        replace HP := Lib.hid (heap_below hb31 HP.out)
        replace DP := Lib.hid (DP.out.below hb31)
        replace HQ := Lib.hid (heap_below hb31 HQ.out)
        replace DQ := Lib.hid (DQ.out.below hb31)
        replace HR := Lib.hid (heap_below hb31 HR.out)
        replace DR := Lib.hid (DR.out.below hb31)
        replace HX := Lib.hid (heap_below hb31 HX.out)
        replace DX := Lib.hid (DX.out.below hb31)
        replace HY := Lib.hid (heap_below hb31 HY.out)
        replace DY := Lib.hid (DY.out.below hb31)
        replace BW := Lib.hid (BW.out.trans (hb31.mono BW.out.size))
        clear hb31
        obtain ⟨p0R, p1R⟩ := box2 HR.out
        go_wp2_with (fail)
        clear p0R p1R
        refine (holds_k DR.out q hq2 false VR.out).mono ?_
        rintro e w32 ⟨rfl, hb32⟩
        replace HA := Lib.hid (heap_below hb32 HA.out)
        replace DA := Lib.hid (DA.out.below hb32)
        replace HG := Lib.hid (heap_below hb32 HG.out)
        replace DG := Lib.hid (DG.out.below hb32)
        replace HJ := Lib.hid (heap_below hb32 HJ.out)
        replace DJ := Lib.hid (DJ.out.below hb32)
        replace HP := Lib.hid (heap_below hb32 HP.out)
        replace DP := Lib.hid (DP.out.below hb32)
        replace HQ := Lib.hid (heap_below hb32 HQ.out)
        replace DQ := Lib.hid (DQ.out.below hb32)
        replace HR := Lib.hid (heap_below hb32 HR.out)
        replace DR := Lib.hid (DR.out.below hb32)
        replace HX := Lib.hid (heap_below hb32 HX.out)
        replace DX := Lib.hid (DX.out.below hb32)
        replace HY := Lib.hid (heap_below hb32 HY.out)
        replace DY := Lib.hid (DY.out.below hb32)
        replace BW := Lib.hid (BW.out.trans (hb32.mono BW.out.size))
        clear hb32
        obtain ⟨p0X, p1X⟩ := box2 HX.out
        go_wp2_with (fail)
        clear p0X p1X
        refine (holds_k DX.out q hq2 false VX.out).mono ?_
        rintro e w33 ⟨rfl, hb33⟩
        replace HA := Lib.hid (heap_below hb33 HA.out)
        replace DA := Lib.hid (DA.out.below hb33)
        replace HG := Lib.hid (heap_below hb33 HG.out)
        replace DG := Lib.hid (DG.out.below hb33)
        replace HJ := Lib.hid (heap_below hb33 HJ.out)
        replace DJ := Lib.hid (DJ.out.below hb33)
        replace HP := Lib.hid (heap_below hb33 HP.out)
        replace DP := Lib.hid (DP.out.below hb33)
        replace HQ := Lib.hid (heap_below hb33 HQ.out)
        replace DQ := Lib.hid (DQ.out.below hb33)
        replace HR := Lib.hid (heap_below hb33 HR.out)
        replace DR := Lib.hid (DR.out.below hb33)
        replace HX := Lib.hid (heap_below hb33 HX.out)
        replace DX := Lib.hid (DX.out.below hb33)
        replace HY := Lib.hid (heap_below hb33 HY.out)
        replace DY := Lib.hid (DY.out.below hb33)
        replace BW := Lib.hid (BW.out.trans (hb33.mono BW.out.size))
        clear hb33
        obtain ⟨p0P, p1P⟩ := box2 HP.out
        go_wp2_with (fail)
        clear p0P p1P
        refine (holds_k DP.out q hq2 true VP.out).mono ?_
        rintro e w34 ⟨rfl, hb34⟩
        replace HA := Lib.hid (heap_below hb34 HA.out)
        replace DA := Lib.hid (DA.out.below hb34)
        replace HG := Lib.hid (heap_below hb34 HG.out)
        replace DG := Lib.hid (DG.out.below hb34)
        replace HJ := Lib.hid (heap_below hb34 HJ.out)
        replace DJ := Lib.hid (DJ.out.below hb34)
        replace HP := Lib.hid (heap_below hb34 HP.out)
        replace DP := Lib.hid (DP.out.below hb34)
        replace HQ := Lib.hid (heap_below hb34 HQ.out)
        replace DQ := Lib.hid (DQ.out.below hb34)
        replace HR := Lib.hid (heap_below hb34 HR.out)
        replace DR := Lib.hid (DR.out.below hb34)
        replace HX := Lib.hid (heap_below hb34 HX.out)
        replace DX := Lib.hid (DX.out.below hb34)
        replace HY := Lib.hid (heap_below hb34 HY.out)
        replace DY := Lib.hid (DY.out.below hb34)
        replace BW := Lib.hid (BW.out.trans (hb34.mono BW.out.size))
        clear hb34
        obtain ⟨p0Y, p1Y⟩ := box2 HY.out
        go_wp2_with (fail)
        clear p0Y p1Y
        refine (holds_k DY.out q hq2 false VY.out).mono ?_
        rintro e w35 ⟨rfl, hb35⟩
        replace HA := Lib.hid (heap_below hb35 HA.out)
        replace DA := Lib.hid (DA.out.below hb35)
        replace HG := Lib.hid (heap_below hb35 HG.out)
        replace DG := Lib.hid (DG.out.below hb35)
        replace HJ := Lib.hid (heap_below hb35 HJ.out)
        replace DJ := Lib.hid (DJ.out.below hb35)
        replace HP := Lib.hid (heap_below hb35 HP.out)
        replace DP := Lib.hid (DP.out.below hb35)
        replace HQ := Lib.hid (heap_below hb35 HQ.out)
        replace DQ := Lib.hid (DQ.out.below hb35)
        replace HR := Lib.hid (heap_below hb35 HR.out)
        replace DR := Lib.hid (DR.out.below hb35)
        replace HX := Lib.hid (heap_below hb35 HX.out)
        replace DX := Lib.hid (DX.out.below hb35)
        replace HY := Lib.hid (heap_below hb35 HY.out)
        replace DY := Lib.hid (DY.out.below hb35)
        replace BW := Lib.hid (BW.out.trans (hb35.mono BW.out.size))
        clear hb35
        go_wp2_with (fail)
        go_ret
        exact ⟨by rfl, BW.out⟩
      · obtain ⟨p0Q, p1Q⟩ := box2 HQ.out
        go_wp2_with (with_reducible refine wpList_store_last rfl 28 (.tmp 20) (.tmp 72) rfl dg0 #[.slice aY tY.canon.nodes.length cY, .int .i64 tY.canon.root] rfl rfl sizedg rfl (by simp [Value.oneCell']) ?_)
        clear p0Q p1Q eY hBY
        refine (holds_k DQ.out q hq2 false VQ.out).mono ?_
        rintro e w31 ⟨rfl, hb31⟩
        replace HA := Lib.hid (heap_below hb31 HA.out)
        replace DA := Lib.hid (DA.out.below hb31)
        replace HG := Lib.hid (heap_below hb31 HG.out)
        replace DG := Lib.hid (DG.out.below hb31)
        replace HJ := Lib.hid (heap_below hb31 HJ.out)
        replace DJ := Lib.hid (DJ.out.below hb31)
        replace HP := Lib.hid (heap_below hb31 HP.out)
        replace DP := Lib.hid (DP.out.below hb31)
        replace HQ := Lib.hid (heap_below hb31 HQ.out)
        replace DQ := Lib.hid (DQ.out.below hb31)
        replace HR := Lib.hid (heap_below hb31 HR.out)
        replace DR := Lib.hid (DR.out.below hb31)
        replace HX := Lib.hid (heap_below hb31 HX.out)
        replace DX := Lib.hid (DX.out.below hb31)
        replace HY := Lib.hid (heap_below hb31 HY.out)
        replace DY := Lib.hid (DY.out.below hb31)
        replace BW := Lib.hid (BW.out.trans (hb31.mono BW.out.size))
        clear hb31
        obtain ⟨p0R, p1R⟩ := box2 HR.out
        go_wp2_with (fail)
        clear p0R p1R
        refine (holds_k DR.out q hq2 false VR.out).mono ?_
        rintro e w32 ⟨rfl, hb32⟩
        replace HA := Lib.hid (heap_below hb32 HA.out)
        replace DA := Lib.hid (DA.out.below hb32)
        replace HG := Lib.hid (heap_below hb32 HG.out)
        replace DG := Lib.hid (DG.out.below hb32)
        replace HJ := Lib.hid (heap_below hb32 HJ.out)
        replace DJ := Lib.hid (DJ.out.below hb32)
        replace HP := Lib.hid (heap_below hb32 HP.out)
        replace DP := Lib.hid (DP.out.below hb32)
        replace HQ := Lib.hid (heap_below hb32 HQ.out)
        replace DQ := Lib.hid (DQ.out.below hb32)
        replace HR := Lib.hid (heap_below hb32 HR.out)
        replace DR := Lib.hid (DR.out.below hb32)
        replace HX := Lib.hid (heap_below hb32 HX.out)
        replace DX := Lib.hid (DX.out.below hb32)
        replace HY := Lib.hid (heap_below hb32 HY.out)
        replace DY := Lib.hid (DY.out.below hb32)
        replace BW := Lib.hid (BW.out.trans (hb32.mono BW.out.size))
        clear hb32
        obtain ⟨p0X, p1X⟩ := box2 HX.out
        go_wp2_with (fail)
        clear p0X p1X
        refine (holds_k DX.out q hq2 false VX.out).mono ?_
        rintro e w33 ⟨rfl, hb33⟩
        replace HA := Lib.hid (heap_below hb33 HA.out)
        replace DA := Lib.hid (DA.out.below hb33)
        replace HG := Lib.hid (heap_below hb33 HG.out)
        replace DG := Lib.hid (DG.out.below hb33)
        replace HJ := Lib.hid (heap_below hb33 HJ.out)
        replace DJ := Lib.hid (DJ.out.below hb33)
        replace HP := Lib.hid (heap_below hb33 HP.out)
        replace DP := Lib.hid (DP.out.below hb33)
        replace HQ := Lib.hid (heap_below hb33 HQ.out)
        replace DQ := Lib.hid (DQ.out.below hb33)
        replace HR := Lib.hid (heap_below hb33 HR.out)
        replace DR := Lib.hid (DR.out.below hb33)
        replace HX := Lib.hid (heap_below hb33 HX.out)
        replace DX := Lib.hid (DX.out.below hb33)
        replace HY := Lib.hid (heap_below hb33 HY.out)
        replace DY := Lib.hid (DY.out.below hb33)
        replace BW := Lib.hid (BW.out.trans (hb33.mono BW.out.size))
        clear hb33
        obtain ⟨p0P, p1P⟩ := box2 HP.out
        go_wp2_with (fail)
        clear p0P p1P
        refine (holds_k DP.out q hq2 true VP.out).mono ?_
        rintro e w34 ⟨rfl, hb34⟩
        replace HA := Lib.hid (heap_below hb34 HA.out)
        replace DA := Lib.hid (DA.out.below hb34)
        replace HG := Lib.hid (heap_below hb34 HG.out)
        replace DG := Lib.hid (DG.out.below hb34)
        replace HJ := Lib.hid (heap_below hb34 HJ.out)
        replace DJ := Lib.hid (DJ.out.below hb34)
        replace HP := Lib.hid (heap_below hb34 HP.out)
        replace DP := Lib.hid (DP.out.below hb34)
        replace HQ := Lib.hid (heap_below hb34 HQ.out)
        replace DQ := Lib.hid (DQ.out.below hb34)
        replace HR := Lib.hid (heap_below hb34 HR.out)
        replace DR := Lib.hid (DR.out.below hb34)
        replace HX := Lib.hid (heap_below hb34 HX.out)
        replace DX := Lib.hid (DX.out.below hb34)
        replace HY := Lib.hid (heap_below hb34 HY.out)
        replace DY := Lib.hid (DY.out.below hb34)
        replace BW := Lib.hid (BW.out.trans (hb34.mono BW.out.size))
        clear hb34
        obtain ⟨p0Y, p1Y⟩ := box2 HY.out
        go_wp2_with (fail)
        clear p0Y p1Y
        refine (holds_k DY.out q hq2 true VY.out).mono ?_
        rintro e w35 ⟨rfl, hb35⟩
        replace HA := Lib.hid (heap_below hb35 HA.out)
        replace DA := Lib.hid (DA.out.below hb35)
        replace HG := Lib.hid (heap_below hb35 HG.out)
        replace DG := Lib.hid (DG.out.below hb35)
        replace HJ := Lib.hid (heap_below hb35 HJ.out)
        replace DJ := Lib.hid (DJ.out.below hb35)
        replace HP := Lib.hid (heap_below hb35 HP.out)
        replace DP := Lib.hid (DP.out.below hb35)
        replace HQ := Lib.hid (heap_below hb35 HQ.out)
        replace DQ := Lib.hid (DQ.out.below hb35)
        replace HR := Lib.hid (heap_below hb35 HR.out)
        replace DR := Lib.hid (DR.out.below hb35)
        replace HX := Lib.hid (heap_below hb35 HX.out)
        replace DX := Lib.hid (DX.out.below hb35)
        replace HY := Lib.hid (heap_below hb35 HY.out)
        replace DY := Lib.hid (DY.out.below hb35)
        replace BW := Lib.hid (BW.out.trans (hb35.mono BW.out.size))
        clear hb35
        go_wp2_with (fail)
        go_ret
        exact ⟨by rfl, BW.out⟩
    · cases ej
      · obtain ⟨p0Q, p1Q⟩ := box2 HQ.out
        go_wp2_with (with_reducible refine wpList_store_last rfl 28 (.tmp 20) (.tmp 72) rfl dg0 #[.slice aY tY.canon.nodes.length cY, .int .i64 tY.canon.root] rfl rfl sizedg rfl (by simp [Value.oneCell']) ?_)
        clear p0Q p1Q eY hBY
        refine (holds_k DQ.out q hq2 false VQ.out).mono ?_
        rintro e w31 ⟨rfl, hb31⟩
        replace HA := Lib.hid (heap_below hb31 HA.out)
        replace DA := Lib.hid (DA.out.below hb31)
        replace HG := Lib.hid (heap_below hb31 HG.out)
        replace DG := Lib.hid (DG.out.below hb31)
        replace HJ := Lib.hid (heap_below hb31 HJ.out)
        replace DJ := Lib.hid (DJ.out.below hb31)
        replace HP := Lib.hid (heap_below hb31 HP.out)
        replace DP := Lib.hid (DP.out.below hb31)
        replace HQ := Lib.hid (heap_below hb31 HQ.out)
        replace DQ := Lib.hid (DQ.out.below hb31)
        replace HR := Lib.hid (heap_below hb31 HR.out)
        replace DR := Lib.hid (DR.out.below hb31)
        replace HX := Lib.hid (heap_below hb31 HX.out)
        replace DX := Lib.hid (DX.out.below hb31)
        replace HY := Lib.hid (heap_below hb31 HY.out)
        replace DY := Lib.hid (DY.out.below hb31)
        replace BW := Lib.hid (BW.out.trans (hb31.mono BW.out.size))
        clear hb31
        obtain ⟨p0R, p1R⟩ := box2 HR.out
        go_wp2_with (fail)
        clear p0R p1R
        refine (holds_k DR.out q hq2 true VR.out).mono ?_
        rintro e w32 ⟨rfl, hb32⟩
        replace HA := Lib.hid (heap_below hb32 HA.out)
        replace DA := Lib.hid (DA.out.below hb32)
        replace HG := Lib.hid (heap_below hb32 HG.out)
        replace DG := Lib.hid (DG.out.below hb32)
        replace HJ := Lib.hid (heap_below hb32 HJ.out)
        replace DJ := Lib.hid (DJ.out.below hb32)
        replace HP := Lib.hid (heap_below hb32 HP.out)
        replace DP := Lib.hid (DP.out.below hb32)
        replace HQ := Lib.hid (heap_below hb32 HQ.out)
        replace DQ := Lib.hid (DQ.out.below hb32)
        replace HR := Lib.hid (heap_below hb32 HR.out)
        replace DR := Lib.hid (DR.out.below hb32)
        replace HX := Lib.hid (heap_below hb32 HX.out)
        replace DX := Lib.hid (DX.out.below hb32)
        replace HY := Lib.hid (heap_below hb32 HY.out)
        replace DY := Lib.hid (DY.out.below hb32)
        replace BW := Lib.hid (BW.out.trans (hb32.mono BW.out.size))
        clear hb32
        obtain ⟨p0X, p1X⟩ := box2 HX.out
        go_wp2_with (fail)
        clear p0X p1X
        refine (holds_k DX.out q hq2 true VX.out).mono ?_
        rintro e w33 ⟨rfl, hb33⟩
        replace HA := Lib.hid (heap_below hb33 HA.out)
        replace DA := Lib.hid (DA.out.below hb33)
        replace HG := Lib.hid (heap_below hb33 HG.out)
        replace DG := Lib.hid (DG.out.below hb33)
        replace HJ := Lib.hid (heap_below hb33 HJ.out)
        replace DJ := Lib.hid (DJ.out.below hb33)
        replace HP := Lib.hid (heap_below hb33 HP.out)
        replace DP := Lib.hid (DP.out.below hb33)
        replace HQ := Lib.hid (heap_below hb33 HQ.out)
        replace DQ := Lib.hid (DQ.out.below hb33)
        replace HR := Lib.hid (heap_below hb33 HR.out)
        replace DR := Lib.hid (DR.out.below hb33)
        replace HX := Lib.hid (heap_below hb33 HX.out)
        replace DX := Lib.hid (DX.out.below hb33)
        replace HY := Lib.hid (heap_below hb33 HY.out)
        replace DY := Lib.hid (DY.out.below hb33)
        replace BW := Lib.hid (BW.out.trans (hb33.mono BW.out.size))
        clear hb33
        obtain ⟨p0P, p1P⟩ := box2 HP.out
        go_wp2_with (fail)
        clear p0P p1P
        refine (holds_k DP.out q hq2 true VP.out).mono ?_
        rintro e w34 ⟨rfl, hb34⟩
        replace HA := Lib.hid (heap_below hb34 HA.out)
        replace DA := Lib.hid (DA.out.below hb34)
        replace HG := Lib.hid (heap_below hb34 HG.out)
        replace DG := Lib.hid (DG.out.below hb34)
        replace HJ := Lib.hid (heap_below hb34 HJ.out)
        replace DJ := Lib.hid (DJ.out.below hb34)
        replace HP := Lib.hid (heap_below hb34 HP.out)
        replace DP := Lib.hid (DP.out.below hb34)
        replace HQ := Lib.hid (heap_below hb34 HQ.out)
        replace DQ := Lib.hid (DQ.out.below hb34)
        replace HR := Lib.hid (heap_below hb34 HR.out)
        replace DR := Lib.hid (DR.out.below hb34)
        replace HX := Lib.hid (heap_below hb34 HX.out)
        replace DX := Lib.hid (DX.out.below hb34)
        replace HY := Lib.hid (heap_below hb34 HY.out)
        replace DY := Lib.hid (DY.out.below hb34)
        replace BW := Lib.hid (BW.out.trans (hb34.mono BW.out.size))
        clear hb34
        obtain ⟨p0Y, p1Y⟩ := box2 HY.out
        go_wp2_with (fail)
        clear p0Y p1Y
        refine (holds_k DY.out q hq2 false VY.out).mono ?_
        rintro e w35 ⟨rfl, hb35⟩
        replace HA := Lib.hid (heap_below hb35 HA.out)
        replace DA := Lib.hid (DA.out.below hb35)
        replace HG := Lib.hid (heap_below hb35 HG.out)
        replace DG := Lib.hid (DG.out.below hb35)
        replace HJ := Lib.hid (heap_below hb35 HJ.out)
        replace DJ := Lib.hid (DJ.out.below hb35)
        replace HP := Lib.hid (heap_below hb35 HP.out)
        replace DP := Lib.hid (DP.out.below hb35)
        replace HQ := Lib.hid (heap_below hb35 HQ.out)
        replace DQ := Lib.hid (DQ.out.below hb35)
        replace HR := Lib.hid (heap_below hb35 HR.out)
        replace DR := Lib.hid (DR.out.below hb35)
        replace HX := Lib.hid (heap_below hb35 HX.out)
        replace DX := Lib.hid (DX.out.below hb35)
        replace HY := Lib.hid (heap_below hb35 HY.out)
        replace DY := Lib.hid (DY.out.below hb35)
        replace BW := Lib.hid (BW.out.trans (hb35.mono BW.out.size))
        clear hb35
        go_wp2_with (fail)
        go_ret
        exact ⟨by rfl, BW.out⟩
      · obtain ⟨p0Q, p1Q⟩ := box2 HQ.out
        go_wp2_with (with_reducible refine wpList_store_last rfl 28 (.tmp 20) (.tmp 72) rfl dg0 #[.slice aY tY.canon.nodes.length cY, .int .i64 tY.canon.root] rfl rfl sizedg rfl (by simp [Value.oneCell']) ?_)
        clear p0Q p1Q eY hBY
        refine (holds_k DQ.out q hq2 false VQ.out).mono ?_
        rintro e w31 ⟨rfl, hb31⟩
        replace HA := Lib.hid (heap_below hb31 HA.out)
        replace DA := Lib.hid (DA.out.below hb31)
        replace HG := Lib.hid (heap_below hb31 HG.out)
        replace DG := Lib.hid (DG.out.below hb31)
        replace HJ := Lib.hid (heap_below hb31 HJ.out)
        replace DJ := Lib.hid (DJ.out.below hb31)
        replace HP := Lib.hid (heap_below hb31 HP.out)
        replace DP := Lib.hid (DP.out.below hb31)
        replace HQ := Lib.hid (heap_below hb31 HQ.out)
        replace DQ := Lib.hid (DQ.out.below hb31)
        replace HR := Lib.hid (heap_below hb31 HR.out)
        replace DR := Lib.hid (DR.out.below hb31)
        replace HX := Lib.hid (heap_below hb31 HX.out)
        replace DX := Lib.hid (DX.out.below hb31)
        replace HY := Lib.hid (heap_below hb31 HY.out)
        replace DY := Lib.hid (DY.out.below hb31)
        replace BW := Lib.hid (BW.out.trans (hb31.mono BW.out.size))
        clear hb31
        obtain ⟨p0R, p1R⟩ := box2 HR.out
        go_wp2_with (fail)
        clear p0R p1R
        refine (holds_k DR.out q hq2 true VR.out).mono ?_
        rintro e w32 ⟨rfl, hb32⟩
        replace HA := Lib.hid (heap_below hb32 HA.out)
        replace DA := Lib.hid (DA.out.below hb32)
        replace HG := Lib.hid (heap_below hb32 HG.out)
        replace DG := Lib.hid (DG.out.below hb32)
        replace HJ := Lib.hid (heap_below hb32 HJ.out)
        replace DJ := Lib.hid (DJ.out.below hb32)
        replace HP := Lib.hid (heap_below hb32 HP.out)
        replace DP := Lib.hid (DP.out.below hb32)
        replace HQ := Lib.hid (heap_below hb32 HQ.out)
        replace DQ := Lib.hid (DQ.out.below hb32)
        replace HR := Lib.hid (heap_below hb32 HR.out)
        replace DR := Lib.hid (DR.out.below hb32)
        replace HX := Lib.hid (heap_below hb32 HX.out)
        replace DX := Lib.hid (DX.out.below hb32)
        replace HY := Lib.hid (heap_below hb32 HY.out)
        replace DY := Lib.hid (DY.out.below hb32)
        replace BW := Lib.hid (BW.out.trans (hb32.mono BW.out.size))
        clear hb32
        obtain ⟨p0X, p1X⟩ := box2 HX.out
        go_wp2_with (fail)
        clear p0X p1X
        refine (holds_k DX.out q hq2 true VX.out).mono ?_
        rintro e w33 ⟨rfl, hb33⟩
        replace HA := Lib.hid (heap_below hb33 HA.out)
        replace DA := Lib.hid (DA.out.below hb33)
        replace HG := Lib.hid (heap_below hb33 HG.out)
        replace DG := Lib.hid (DG.out.below hb33)
        replace HJ := Lib.hid (heap_below hb33 HJ.out)
        replace DJ := Lib.hid (DJ.out.below hb33)
        replace HP := Lib.hid (heap_below hb33 HP.out)
        replace DP := Lib.hid (DP.out.below hb33)
        replace HQ := Lib.hid (heap_below hb33 HQ.out)
        replace DQ := Lib.hid (DQ.out.below hb33)
        replace HR := Lib.hid (heap_below hb33 HR.out)
        replace DR := Lib.hid (DR.out.below hb33)
        replace HX := Lib.hid (heap_below hb33 HX.out)
        replace DX := Lib.hid (DX.out.below hb33)
        replace HY := Lib.hid (heap_below hb33 HY.out)
        replace DY := Lib.hid (DY.out.below hb33)
        replace BW := Lib.hid (BW.out.trans (hb33.mono BW.out.size))
        clear hb33
        obtain ⟨p0P, p1P⟩ := box2 HP.out
        go_wp2_with (fail)
        clear p0P p1P
        refine (holds_k DP.out q hq2 true VP.out).mono ?_
        rintro e w34 ⟨rfl, hb34⟩
        replace HA := Lib.hid (heap_below hb34 HA.out)
        replace DA := Lib.hid (DA.out.below hb34)
        replace HG := Lib.hid (heap_below hb34 HG.out)
        replace DG := Lib.hid (DG.out.below hb34)
        replace HJ := Lib.hid (heap_below hb34 HJ.out)
        replace DJ := Lib.hid (DJ.out.below hb34)
        replace HP := Lib.hid (heap_below hb34 HP.out)
        replace DP := Lib.hid (DP.out.below hb34)
        replace HQ := Lib.hid (heap_below hb34 HQ.out)
        replace DQ := Lib.hid (DQ.out.below hb34)
        replace HR := Lib.hid (heap_below hb34 HR.out)
        replace DR := Lib.hid (DR.out.below hb34)
        replace HX := Lib.hid (heap_below hb34 HX.out)
        replace DX := Lib.hid (DX.out.below hb34)
        replace HY := Lib.hid (heap_below hb34 HY.out)
        replace DY := Lib.hid (DY.out.below hb34)
        replace BW := Lib.hid (BW.out.trans (hb34.mono BW.out.size))
        clear hb34
        obtain ⟨p0Y, p1Y⟩ := box2 HY.out
        go_wp2_with (fail)
        clear p0Y p1Y
        refine (holds_k DY.out q hq2 true VY.out).mono ?_
        rintro e w35 ⟨rfl, hb35⟩
        replace HA := Lib.hid (heap_below hb35 HA.out)
        replace DA := Lib.hid (DA.out.below hb35)
        replace HG := Lib.hid (heap_below hb35 HG.out)
        replace DG := Lib.hid (DG.out.below hb35)
        replace HJ := Lib.hid (heap_below hb35 HJ.out)
        replace DJ := Lib.hid (DJ.out.below hb35)
        replace HP := Lib.hid (heap_below hb35 HP.out)
        replace DP := Lib.hid (DP.out.below hb35)
        replace HQ := Lib.hid (heap_below hb35 HQ.out)
        replace DQ := Lib.hid (DQ.out.below hb35)
        replace HR := Lib.hid (heap_below hb35 HR.out)
        replace DR := Lib.hid (DR.out.below hb35)
        replace HX := Lib.hid (heap_below hb35 HX.out)
        replace DX := Lib.hid (DX.out.below hb35)
        replace HY := Lib.hid (heap_below hb35 HY.out)
        replace DY := Lib.hid (DY.out.below hb35)
        replace BW := Lib.hid (BW.out.trans (hb35.mono BW.out.size))
        clear hb35
        go_wp2_with (fail)
        go_ret
        exact ⟨by rfl, BW.out⟩
  · cases eg
    · cases ej
      · obtain ⟨p0Q, p1Q⟩ := box2 HQ.out
        go_wp2_with (with_reducible refine wpList_store_last rfl 28 (.tmp 20) (.tmp 72) rfl dg0 #[.slice aY tY.canon.nodes.length cY, .int .i64 tY.canon.root] rfl rfl sizedg rfl (by simp [Value.oneCell']) ?_)
        clear p0Q p1Q eY hBY
        refine (holds_k DQ.out q hq2 false VQ.out).mono ?_
        rintro e w31 ⟨rfl, hb31⟩
        replace HA := Lib.hid (heap_below hb31 HA.out)
        replace DA := Lib.hid (DA.out.below hb31)
        replace HG := Lib.hid (heap_below hb31 HG.out)
        replace DG := Lib.hid (DG.out.below hb31)
        replace HJ := Lib.hid (heap_below hb31 HJ.out)
        replace DJ := Lib.hid (DJ.out.below hb31)
        replace HP := Lib.hid (heap_below hb31 HP.out)
        replace DP := Lib.hid (DP.out.below hb31)
        replace HQ := Lib.hid (heap_below hb31 HQ.out)
        replace DQ := Lib.hid (DQ.out.below hb31)
        replace HR := Lib.hid (heap_below hb31 HR.out)
        replace DR := Lib.hid (DR.out.below hb31)
        replace HX := Lib.hid (heap_below hb31 HX.out)
        replace DX := Lib.hid (DX.out.below hb31)
        replace HY := Lib.hid (heap_below hb31 HY.out)
        replace DY := Lib.hid (DY.out.below hb31)
        replace BW := Lib.hid (BW.out.trans (hb31.mono BW.out.size))
        clear hb31
        obtain ⟨p0R, p1R⟩ := box2 HR.out
        go_wp2_with (fail)
        clear p0R p1R
        refine (holds_k DR.out q hq2 true VR.out).mono ?_
        rintro e w32 ⟨rfl, hb32⟩
        replace HA := Lib.hid (heap_below hb32 HA.out)
        replace DA := Lib.hid (DA.out.below hb32)
        replace HG := Lib.hid (heap_below hb32 HG.out)
        replace DG := Lib.hid (DG.out.below hb32)
        replace HJ := Lib.hid (heap_below hb32 HJ.out)
        replace DJ := Lib.hid (DJ.out.below hb32)
        replace HP := Lib.hid (heap_below hb32 HP.out)
        replace DP := Lib.hid (DP.out.below hb32)
        replace HQ := Lib.hid (heap_below hb32 HQ.out)
        replace DQ := Lib.hid (DQ.out.below hb32)
        replace HR := Lib.hid (heap_below hb32 HR.out)
        replace DR := Lib.hid (DR.out.below hb32)
        replace HX := Lib.hid (heap_below hb32 HX.out)
        replace DX := Lib.hid (DX.out.below hb32)
        replace HY := Lib.hid (heap_below hb32 HY.out)
        replace DY := Lib.hid (DY.out.below hb32)
        replace BW := Lib.hid (BW.out.trans (hb32.mono BW.out.size))
        clear hb32
        obtain ⟨p0X, p1X⟩ := box2 HX.out
        go_wp2_with (fail)
        clear p0X p1X
        refine (holds_k DX.out q hq2 true VX.out).mono ?_
        rintro e w33 ⟨rfl, hb33⟩
        replace HA := Lib.hid (heap_below hb33 HA.out)
        replace DA := Lib.hid (DA.out.below hb33)
        replace HG := Lib.hid (heap_below hb33 HG.out)
        replace DG := Lib.hid (DG.out.below hb33)
        replace HJ := Lib.hid (heap_below hb33 HJ.out)
        replace DJ := Lib.hid (DJ.out.below hb33)
        replace HP := Lib.hid (heap_below hb33 HP.out)
        replace DP := Lib.hid (DP.out.below hb33)
        replace HQ := Lib.hid (heap_below hb33 HQ.out)
        replace DQ := Lib.hid (DQ.out.below hb33)
        replace HR := Lib.hid (heap_below hb33 HR.out)
        replace DR := Lib.hid (DR.out.below hb33)
        replace HX := Lib.hid (heap_below hb33 HX.out)
        replace DX := Lib.hid (DX.out.below hb33)
        replace HY := Lib.hid (heap_below hb33 HY.out)
        replace DY := Lib.hid (DY.out.below hb33)
        replace BW := Lib.hid (BW.out.trans (hb33.mono BW.out.size))
        clear hb33
        obtain ⟨p0P, p1P⟩ := box2 HP.out
        go_wp2_with (fail)
        clear p0P p1P
        refine (holds_k DP.out q hq2 false VP.out).mono ?_
        rintro e w34 ⟨rfl, hb34⟩
        replace HA := Lib.hid (heap_below hb34 HA.out)
        replace DA := Lib.hid (DA.out.below hb34)
        replace HG := Lib.hid (heap_below hb34 HG.out)
        replace DG := Lib.hid (DG.out.below hb34)
        replace HJ := Lib.hid (heap_below hb34 HJ.out)
        replace DJ := Lib.hid (DJ.out.below hb34)
        replace HP := Lib.hid (heap_below hb34 HP.out)
        replace DP := Lib.hid (DP.out.below hb34)
        replace HQ := Lib.hid (heap_below hb34 HQ.out)
        replace DQ := Lib.hid (DQ.out.below hb34)
        replace HR := Lib.hid (heap_below hb34 HR.out)
        replace DR := Lib.hid (DR.out.below hb34)
        replace HX := Lib.hid (heap_below hb34 HX.out)
        replace DX := Lib.hid (DX.out.below hb34)
        replace HY := Lib.hid (heap_below hb34 HY.out)
        replace DY := Lib.hid (DY.out.below hb34)
        replace BW := Lib.hid (BW.out.trans (hb34.mono BW.out.size))
        clear hb34
        obtain ⟨p0Y, p1Y⟩ := box2 HY.out
        go_wp2_with (fail)
        clear p0Y p1Y
        refine (holds_k DY.out q hq2 false VY.out).mono ?_
        rintro e w35 ⟨rfl, hb35⟩
        replace HA := Lib.hid (heap_below hb35 HA.out)
        replace DA := Lib.hid (DA.out.below hb35)
        replace HG := Lib.hid (heap_below hb35 HG.out)
        replace DG := Lib.hid (DG.out.below hb35)
        replace HJ := Lib.hid (heap_below hb35 HJ.out)
        replace DJ := Lib.hid (DJ.out.below hb35)
        replace HP := Lib.hid (heap_below hb35 HP.out)
        replace DP := Lib.hid (DP.out.below hb35)
        replace HQ := Lib.hid (heap_below hb35 HQ.out)
        replace DQ := Lib.hid (DQ.out.below hb35)
        replace HR := Lib.hid (heap_below hb35 HR.out)
        replace DR := Lib.hid (DR.out.below hb35)
        replace HX := Lib.hid (heap_below hb35 HX.out)
        replace DX := Lib.hid (DX.out.below hb35)
        replace HY := Lib.hid (heap_below hb35 HY.out)
        replace DY := Lib.hid (DY.out.below hb35)
        replace BW := Lib.hid (BW.out.trans (hb35.mono BW.out.size))
        clear hb35
        go_wp2_with (fail)
        go_ret
        exact ⟨by rfl, BW.out⟩
      · obtain ⟨p0Q, p1Q⟩ := box2 HQ.out
        go_wp2_with (with_reducible refine wpList_store_last rfl 28 (.tmp 20) (.tmp 72) rfl dg0 #[.slice aY tY.canon.nodes.length cY, .int .i64 tY.canon.root] rfl rfl sizedg rfl (by simp [Value.oneCell']) ?_)
        clear p0Q p1Q eY hBY
        refine (holds_k DQ.out q hq2 false VQ.out).mono ?_
        rintro e w31 ⟨rfl, hb31⟩
        replace HA := Lib.hid (heap_below hb31 HA.out)
        replace DA := Lib.hid (DA.out.below hb31)
        replace HG := Lib.hid (heap_below hb31 HG.out)
        replace DG := Lib.hid (DG.out.below hb31)
        replace HJ := Lib.hid (heap_below hb31 HJ.out)
        replace DJ := Lib.hid (DJ.out.below hb31)
        replace HP := Lib.hid (heap_below hb31 HP.out)
        replace DP := Lib.hid (DP.out.below hb31)
        replace HQ := Lib.hid (heap_below hb31 HQ.out)
        replace DQ := Lib.hid (DQ.out.below hb31)
        replace HR := Lib.hid (heap_below hb31 HR.out)
        replace DR := Lib.hid (DR.out.below hb31)
        replace HX := Lib.hid (heap_below hb31 HX.out)
        replace DX := Lib.hid (DX.out.below hb31)
        replace HY := Lib.hid (heap_below hb31 HY.out)
        replace DY := Lib.hid (DY.out.below hb31)
        replace BW := Lib.hid (BW.out.trans (hb31.mono BW.out.size))
        clear hb31
        obtain ⟨p0R, p1R⟩ := box2 HR.out
        go_wp2_with (fail)
        clear p0R p1R
        refine (holds_k DR.out q hq2 true VR.out).mono ?_
        rintro e w32 ⟨rfl, hb32⟩
        replace HA := Lib.hid (heap_below hb32 HA.out)
        replace DA := Lib.hid (DA.out.below hb32)
        replace HG := Lib.hid (heap_below hb32 HG.out)
        replace DG := Lib.hid (DG.out.below hb32)
        replace HJ := Lib.hid (heap_below hb32 HJ.out)
        replace DJ := Lib.hid (DJ.out.below hb32)
        replace HP := Lib.hid (heap_below hb32 HP.out)
        replace DP := Lib.hid (DP.out.below hb32)
        replace HQ := Lib.hid (heap_below hb32 HQ.out)
        replace DQ := Lib.hid (DQ.out.below hb32)
        replace HR := Lib.hid (heap_below hb32 HR.out)
        replace DR := Lib.hid (DR.out.below hb32)
        replace HX := Lib.hid (heap_below hb32 HX.out)
        replace DX := Lib.hid (DX.out.below hb32)
        replace HY := Lib.hid (heap_below hb32 HY.out)
        replace DY := Lib.hid (DY.out.below hb32)
        replace BW := Lib.hid (BW.out.trans (hb32.mono BW.out.size))
        clear hb32
        obtain ⟨p0X, p1X⟩ := box2 HX.out
        go_wp2_with (fail)
        clear p0X p1X
        refine (holds_k DX.out q hq2 true VX.out).mono ?_
        rintro e w33 ⟨rfl, hb33⟩
        replace HA := Lib.hid (heap_below hb33 HA.out)
        replace DA := Lib.hid (DA.out.below hb33)
        replace HG := Lib.hid (heap_below hb33 HG.out)
        replace DG := Lib.hid (DG.out.below hb33)
        replace HJ := Lib.hid (heap_below hb33 HJ.out)
        replace DJ := Lib.hid (DJ.out.below hb33)
        replace HP := Lib.hid (heap_below hb33 HP.out)
        replace DP := Lib.hid (DP.out.below hb33)
        replace HQ := Lib.hid (heap_below hb33 HQ.out)
        replace DQ := Lib.hid (DQ.out.below hb33)
        replace HR := Lib.hid (heap_below hb33 HR.out)
        replace DR := Lib.hid (DR.out.below hb33)
        replace HX := Lib.hid (heap_below hb33 HX.out)
        replace DX := Lib.hid (DX.out.below hb33)
        replace HY := Lib.hid (heap_below hb33 HY.out)
        replace DY := Lib.hid (DY.out.below hb33)
        replace BW := Lib.hid (BW.out.trans (hb33.mono BW.out.size))
        clear hb33
        obtain ⟨p0P, p1P⟩ := box2 HP.out
        go_wp2_with (fail)
        clear p0P p1P
        refine (holds_k DP.out q hq2 false VP.out).mono ?_
        rintro e w34 ⟨rfl, hb34⟩
        replace HA := Lib.hid (heap_below hb34 HA.out)
        replace DA := Lib.hid (DA.out.below hb34)
        replace HG := Lib.hid (heap_below hb34 HG.out)
        replace DG := Lib.hid (DG.out.below hb34)
        replace HJ := Lib.hid (heap_below hb34 HJ.out)
        replace DJ := Lib.hid (DJ.out.below hb34)
        replace HP := Lib.hid (heap_below hb34 HP.out)
        replace DP := Lib.hid (DP.out.below hb34)
        replace HQ := Lib.hid (heap_below hb34 HQ.out)
        replace DQ := Lib.hid (DQ.out.below hb34)
        replace HR := Lib.hid (heap_below hb34 HR.out)
        replace DR := Lib.hid (DR.out.below hb34)
        replace HX := Lib.hid (heap_below hb34 HX.out)
        replace DX := Lib.hid (DX.out.below hb34)
        replace HY := Lib.hid (heap_below hb34 HY.out)
        replace DY := Lib.hid (DY.out.below hb34)
        replace BW := Lib.hid (BW.out.trans (hb34.mono BW.out.size))
        clear hb34
        obtain ⟨p0Y, p1Y⟩ := box2 HY.out
        go_wp2_with (fail)
        clear p0Y p1Y
        refine (holds_k DY.out q hq2 false VY.out).mono ?_
        rintro e w35 ⟨rfl, hb35⟩
        replace HA := Lib.hid (heap_below hb35 HA.out)
        replace DA := Lib.hid (DA.out.below hb35)
        replace HG := Lib.hid (heap_below hb35 HG.out)
        replace DG := Lib.hid (DG.out.below hb35)
        replace HJ := Lib.hid (heap_below hb35 HJ.out)
        replace DJ := Lib.hid (DJ.out.below hb35)
        replace HP := Lib.hid (heap_below hb35 HP.out)
        replace DP := Lib.hid (DP.out.below hb35)
        replace HQ := Lib.hid (heap_below hb35 HQ.out)
        replace DQ := Lib.hid (DQ.out.below hb35)
        replace HR := Lib.hid (heap_below hb35 HR.out)
        replace DR := Lib.hid (DR.out.below hb35)
        replace HX := Lib.hid (heap_below hb35 HX.out)
        replace DX := Lib.hid (DX.out.below hb35)
        replace HY := Lib.hid (heap_below hb35 HY.out)
        replace DY := Lib.hid (DY.out.below hb35)
        replace BW := Lib.hid (BW.out.trans (hb35.mono BW.out.size))
        clear hb35
        go_wp2_with (fail)
        go_ret
        exact ⟨by rfl, BW.out⟩
    · cases ej
      · obtain ⟨p0Q, p1Q⟩ := box2 HQ.out
        go_wp2_with (with_reducible refine wpList_store_last rfl 28 (.tmp 20) (.tmp 72) rfl dg0 #[.slice aY tY.canon.nodes.length cY, .int .i64 tY.canon.root] rfl rfl sizedg rfl (by simp [Value.oneCell']) ?_)
        clear p0Q p1Q eY hBY
        refine (holds_k DQ.out q hq2 true VQ.out).mono ?_
        rintro e w31 ⟨rfl, hb31⟩
        replace HA := Lib.hid (heap_below hb31 HA.out)
        replace DA := Lib.hid (DA.out.below hb31)
        replace HG := Lib.hid (heap_below hb31 HG.out)
        replace DG := Lib.hid (DG.out.below hb31)
        replace HJ := Lib.hid (heap_below hb31 HJ.out)
        replace DJ := Lib.hid (DJ.out.below hb31)
        replace HP := Lib.hid (heap_below hb31 HP.out)
        replace DP := Lib.hid (DP.out.below hb31)
        replace HQ := Lib.hid (heap_below hb31 HQ.out)
        replace DQ := Lib.hid (DQ.out.below hb31)
        replace HR := Lib.hid (heap_below hb31 HR.out)
        replace DR := Lib.hid (DR.out.below hb31)
        replace HX := Lib.hid (heap_below hb31 HX.out)
        replace DX := Lib.hid (DX.out.below hb31)
        replace HY := Lib.hid (heap_below hb31 HY.out)
        replace DY := Lib.hid (DY.out.below hb31)
        replace BW := Lib.hid (BW.out.trans (hb31.mono BW.out.size))
        clear hb31
        obtain ⟨p0R, p1R⟩ := box2 HR.out
        go_wp2_with (fail)
        clear p0R p1R
        refine (holds_k DR.out q hq2 true VR.out).mono ?_
        rintro e w32 ⟨rfl, hb32⟩
        replace HA := Lib.hid (heap_below hb32 HA.out)
        replace DA := Lib.hid (DA.out.below hb32)
        replace HG := Lib.hid (heap_below hb32 HG.out)
        replace DG := Lib.hid (DG.out.below hb32)
        replace HJ := Lib.hid (heap_below hb32 HJ.out)
        replace DJ := Lib.hid (DJ.out.below hb32)
        replace HP := Lib.hid (heap_below hb32 HP.out)
        replace DP := Lib.hid (DP.out.below hb32)
        replace HQ := Lib.hid (heap_below hb32 HQ.out)
        replace DQ := Lib.hid (DQ.out.below hb32)
        replace HR := Lib.hid (heap_below hb32 HR.out)
        replace DR := Lib.hid (DR.out.below hb32)
        replace HX := Lib.hid (heap_below hb32 HX.out)
        replace DX := Lib.hid (DX.out.below hb32)
        replace HY := Lib.hid (heap_below hb32 HY.out)
        replace DY := Lib.hid (DY.out.below hb32)
        replace BW := Lib.hid (BW.out.trans (hb32.mono BW.out.size))
        clear hb32
        obtain ⟨p0X, p1X⟩ := box2 HX.out
        go_wp2_with (fail)
        clear p0X p1X
        refine (holds_k DX.out q hq2 false VX.out).mono ?_
        rintro e w33 ⟨rfl, hb33⟩
        replace HA := Lib.hid (heap_below hb33 HA.out)
        replace DA := Lib.hid (DA.out.below hb33)
        replace HG := Lib.hid (heap_below hb33 HG.out)
        replace DG := Lib.hid (DG.out.below hb33)
        replace HJ := Lib.hid (heap_below hb33 HJ.out)
        replace DJ := Lib.hid (DJ.out.below hb33)
        replace HP := Lib.hid (heap_below hb33 HP.out)
        replace DP := Lib.hid (DP.out.below hb33)
        replace HQ := Lib.hid (heap_below hb33 HQ.out)
        replace DQ := Lib.hid (DQ.out.below hb33)
        replace HR := Lib.hid (heap_below hb33 HR.out)
        replace DR := Lib.hid (DR.out.below hb33)
        replace HX := Lib.hid (heap_below hb33 HX.out)
        replace DX := Lib.hid (DX.out.below hb33)
        replace HY := Lib.hid (heap_below hb33 HY.out)
        replace DY := Lib.hid (DY.out.below hb33)
        replace BW := Lib.hid (BW.out.trans (hb33.mono BW.out.size))
        clear hb33
        obtain ⟨p0P, p1P⟩ := box2 HP.out
        go_wp2_with (fail)
        clear p0P p1P
        refine (holds_k DP.out q hq2 false VP.out).mono ?_
        rintro e w34 ⟨rfl, hb34⟩
        replace HA := Lib.hid (heap_below hb34 HA.out)
        replace DA := Lib.hid (DA.out.below hb34)
        replace HG := Lib.hid (heap_below hb34 HG.out)
        replace DG := Lib.hid (DG.out.below hb34)
        replace HJ := Lib.hid (heap_below hb34 HJ.out)
        replace DJ := Lib.hid (DJ.out.below hb34)
        replace HP := Lib.hid (heap_below hb34 HP.out)
        replace DP := Lib.hid (DP.out.below hb34)
        replace HQ := Lib.hid (heap_below hb34 HQ.out)
        replace DQ := Lib.hid (DQ.out.below hb34)
        replace HR := Lib.hid (heap_below hb34 HR.out)
        replace DR := Lib.hid (DR.out.below hb34)
        replace HX := Lib.hid (heap_below hb34 HX.out)
        replace DX := Lib.hid (DX.out.below hb34)
        replace HY := Lib.hid (heap_below hb34 HY.out)
        replace DY := Lib.hid (DY.out.below hb34)
        replace BW := Lib.hid (BW.out.trans (hb34.mono BW.out.size))
        clear hb34
        obtain ⟨p0Y, p1Y⟩ := box2 HY.out
        go_wp2_with (fail)
        clear p0Y p1Y
        refine (holds_k DY.out q hq2 true VY.out).mono ?_
        rintro e w35 ⟨rfl, hb35⟩
        replace HA := Lib.hid (heap_below hb35 HA.out)
        replace DA := Lib.hid (DA.out.below hb35)
        replace HG := Lib.hid (heap_below hb35 HG.out)
        replace DG := Lib.hid (DG.out.below hb35)
        replace HJ := Lib.hid (heap_below hb35 HJ.out)
        replace DJ := Lib.hid (DJ.out.below hb35)
        replace HP := Lib.hid (heap_below hb35 HP.out)
        replace DP := Lib.hid (DP.out.below hb35)
        replace HQ := Lib.hid (heap_below hb35 HQ.out)
        replace DQ := Lib.hid (DQ.out.below hb35)
        replace HR := Lib.hid (heap_below hb35 HR.out)
        replace DR := Lib.hid (DR.out.below hb35)
        replace HX := Lib.hid (heap_below hb35 HX.out)
        replace DX := Lib.hid (DX.out.below hb35)
        replace HY := Lib.hid (heap_below hb35 HY.out)
        replace DY := Lib.hid (DY.out.below hb35)
        replace BW := Lib.hid (BW.out.trans (hb35.mono BW.out.size))
        clear hb35
        go_wp2_with (fail)
        go_ret
        exact ⟨by rfl, BW.out⟩
      · obtain ⟨p0Q, p1Q⟩ := box2 HQ.out
        go_wp2_with (with_reducible refine wpList_store_last rfl 28 (.tmp 20) (.tmp 72) rfl dg0 #[.slice aY tY.canon.nodes.length cY, .int .i64 tY.canon.root] rfl rfl sizedg rfl (by simp [Value.oneCell']) ?_)
        clear p0Q p1Q eY hBY
        refine (holds_k DQ.out q hq2 true VQ.out).mono ?_
        rintro e w31 ⟨rfl, hb31⟩
        replace HA := Lib.hid (heap_below hb31 HA.out)
        replace DA := Lib.hid (DA.out.below hb31)
        replace HG := Lib.hid (heap_below hb31 HG.out)
        replace DG := Lib.hid (DG.out.below hb31)
        replace HJ := Lib.hid (heap_below hb31 HJ.out)
        replace DJ := Lib.hid (DJ.out.below hb31)
        replace HP := Lib.hid (heap_below hb31 HP.out)
        replace DP := Lib.hid (DP.out.below hb31)
        replace HQ := Lib.hid (heap_below hb31 HQ.out)
        replace DQ := Lib.hid (DQ.out.below hb31)
        replace HR := Lib.hid (heap_below hb31 HR.out)
        replace DR := Lib.hid (DR.out.below hb31)
        replace HX := Lib.hid (heap_below hb31 HX.out)
        replace DX := Lib.hid (DX.out.below hb31)
        replace HY := Lib.hid (heap_below hb31 HY.out)
        replace DY := Lib.hid (DY.out.below hb31)
        replace BW := Lib.hid (BW.out.trans (hb31.mono BW.out.size))
        clear hb31
        obtain ⟨p0R, p1R⟩ := box2 HR.out
        go_wp2_with (fail)
        clear p0R p1R
        refine (holds_k DR.out q hq2 true VR.out).mono ?_
        rintro e w32 ⟨rfl, hb32⟩
        replace HA := Lib.hid (heap_below hb32 HA.out)
        replace DA := Lib.hid (DA.out.below hb32)
        replace HG := Lib.hid (heap_below hb32 HG.out)
        replace DG := Lib.hid (DG.out.below hb32)
        replace HJ := Lib.hid (heap_below hb32 HJ.out)
        replace DJ := Lib.hid (DJ.out.below hb32)
        replace HP := Lib.hid (heap_below hb32 HP.out)
        replace DP := Lib.hid (DP.out.below hb32)
        replace HQ := Lib.hid (heap_below hb32 HQ.out)
        replace DQ := Lib.hid (DQ.out.below hb32)
        replace HR := Lib.hid (heap_below hb32 HR.out)
        replace DR := Lib.hid (DR.out.below hb32)
        replace HX := Lib.hid (heap_below hb32 HX.out)
        replace DX := Lib.hid (DX.out.below hb32)
        replace HY := Lib.hid (heap_below hb32 HY.out)
        replace DY := Lib.hid (DY.out.below hb32)
        replace BW := Lib.hid (BW.out.trans (hb32.mono BW.out.size))
        clear hb32
        obtain ⟨p0X, p1X⟩ := box2 HX.out
        go_wp2_with (fail)
        clear p0X p1X
        refine (holds_k DX.out q hq2 false VX.out).mono ?_
        rintro e w33 ⟨rfl, hb33⟩
        replace HA := Lib.hid (heap_below hb33 HA.out)
        replace DA := Lib.hid (DA.out.below hb33)
        replace HG := Lib.hid (heap_below hb33 HG.out)
        replace DG := Lib.hid (DG.out.below hb33)
        replace HJ := Lib.hid (heap_below hb33 HJ.out)
        replace DJ := Lib.hid (DJ.out.below hb33)
        replace HP := Lib.hid (heap_below hb33 HP.out)
        replace DP := Lib.hid (DP.out.below hb33)
        replace HQ := Lib.hid (heap_below hb33 HQ.out)
        replace DQ := Lib.hid (DQ.out.below hb33)
        replace HR := Lib.hid (heap_below hb33 HR.out)
        replace DR := Lib.hid (DR.out.below hb33)
        replace HX := Lib.hid (heap_below hb33 HX.out)
        replace DX := Lib.hid (DX.out.below hb33)
        replace HY := Lib.hid (heap_below hb33 HY.out)
        replace DY := Lib.hid (DY.out.below hb33)
        replace BW := Lib.hid (BW.out.trans (hb33.mono BW.out.size))
        clear hb33
        obtain ⟨p0P, p1P⟩ := box2 HP.out
        go_wp2_with (fail)
        clear p0P p1P
        refine (holds_k DP.out q hq2 false VP.out).mono ?_
        rintro e w34 ⟨rfl, hb34⟩
        replace HA := Lib.hid (heap_below hb34 HA.out)
        replace DA := Lib.hid (DA.out.below hb34)
        replace HG := Lib.hid (heap_below hb34 HG.out)
        replace DG := Lib.hid (DG.out.below hb34)
        replace HJ := Lib.hid (heap_below hb34 HJ.out)
        replace DJ := Lib.hid (DJ.out.below hb34)
        replace HP := Lib.hid (heap_below hb34 HP.out)
        replace DP := Lib.hid (DP.out.below hb34)
        replace HQ := Lib.hid (heap_below hb34 HQ.out)
        replace DQ := Lib.hid (DQ.out.below hb34)
        replace HR := Lib.hid (heap_below hb34 HR.out)
        replace DR := Lib.hid (DR.out.below hb34)
        replace HX := Lib.hid (heap_below hb34 HX.out)
        replace DX := Lib.hid (DX.out.below hb34)
        replace HY := Lib.hid (heap_below hb34 HY.out)
        replace DY := Lib.hid (DY.out.below hb34)
        replace BW := Lib.hid (BW.out.trans (hb34.mono BW.out.size))
        clear hb34
        obtain ⟨p0Y, p1Y⟩ := box2 HY.out
        go_wp2_with (fail)
        clear p0Y p1Y
        refine (holds_k DY.out q hq2 true VY.out).mono ?_
        rintro e w35 ⟨rfl, hb35⟩
        replace HA := Lib.hid (heap_below hb35 HA.out)
        replace DA := Lib.hid (DA.out.below hb35)
        replace HG := Lib.hid (heap_below hb35 HG.out)
        replace DG := Lib.hid (DG.out.below hb35)
        replace HJ := Lib.hid (heap_below hb35 HJ.out)
        replace DJ := Lib.hid (DJ.out.below hb35)
        replace HP := Lib.hid (heap_below hb35 HP.out)
        replace DP := Lib.hid (DP.out.below hb35)
        replace HQ := Lib.hid (heap_below hb35 HQ.out)
        replace DQ := Lib.hid (DQ.out.below hb35)
        replace HR := Lib.hid (heap_below hb35 HR.out)
        replace DR := Lib.hid (DR.out.below hb35)
        replace HX := Lib.hid (heap_below hb35 HX.out)
        replace DX := Lib.hid (DX.out.below hb35)
        replace HY := Lib.hid (heap_below hb35 HY.out)
        replace DY := Lib.hid (DY.out.below hb35)
        replace BW := Lib.hid (BW.out.trans (hb35.mono BW.out.size))
        clear hb35
        go_wp2_with (fail)
        go_ret
        exact ⟨by rfl, BW.out⟩

end Go.Proofs.Ytohmibmakelclaa
