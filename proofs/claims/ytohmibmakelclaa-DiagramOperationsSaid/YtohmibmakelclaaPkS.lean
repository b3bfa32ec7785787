/-
  DiagramLeast: the walk.
  No condition.
-/
import Derived.Test.YtohmibmakelclaaPkQ
import Derived.Test.YtohmibmakelclaaPkR
namespace Go.Proofs.Ytohmibmakelclaa
set_option linter.unusedVariables false
set_option linter.unusedSimpArgs false
open Go.RowKit

/-- The diagram of a set of few conditions. -/
theorem SetOf.td {w w' : World} {e : Ending} {n : Nat} (h : SetOf w w' e n) (hn : n ≤ 6) : ∃ (a : Option Addr) (c : Nat) (t : T), e = .returned (dval a c t) ∧ TD w' (dval a c t) t ∧ t.bel n := by
  obtain ⟨a, c, t, rfl, ok, bl, hM⟩ := h
  exact ⟨a, c, t, rfl, ⟨hM NoB (fun b h => h.elim), ok, Nat.le_trans (ok.small bl hn) (by decide)⟩, bl⟩

set_option maxRecDepth 100000 in
set_option maxHeartbeats 4000000 in
theorem leastLaw (w : World) (v : Value) (xs : List Int) (N : Nat) (hs : SetAt w v xs N) :
    Calls Try.prog 8 #[v] w fun e w' => e = .returned (.bool true) ∧ Below w.heap.size w w' := by
  obtain ⟨a, c, rfl⟩ := hs.shape
  obtain ⟨w0, b0, e0, hb0, z0, h0, B0⟩ := laid w #[.slice a xs.length c, .int .u8 (N : Int)] 24
  have BW : Hid (Below w.heap.size w w0) := B0
  have K : Hid (w0.heap[b0]? = some (.cells #[.slice a xs.length c, .int .u8 (N : Int)] 24 (0, 0))) := h0
  have HS := Lib.hid (hs.below B0)
  clear h0 B0 hs
  go_enter Try.func8, Try.ntmps8
  go_wp2_with (fail)
  refine (sanity_any w0).mono ?_
  rintro e w1 ⟨rfl, hb1⟩
  replace HS := Lib.hid (HS.out.below hb1)
  replace BW := Lib.hid (BW.out.trans (hb1.mono BW.out.size))
  replace K := Lib.hid (heap_below hb1 K.out)
  clear hb1
  obtain ⟨k0, k1⟩ := box2v K.out
  go_wp2_with (fail)
  refine (lmade_any w1 _ xs N HS.out).mono ?_
  rintro e w2 ⟨hR, hb2⟩
  obtain ⟨aA, cA, tA, rfl, tdA, blA⟩ := hR.td (by omega)
  have BL := Lib.hid blA
  clear blA hR k0 k1
  obtain ⟨w3, bA, eA, hBA, -, hA, BA⟩ := laid w2 #[.slice aA tA.canon.nodes.length cA, .int .i64 tA.canon.root] 28
  have BB := hb2.trans (BA.mono hb2.size)
  replace HS := Lib.hid (HS.out.below BB)
  replace BW := Lib.hid (BW.out.trans (BB.mono BW.out.size))
  replace K := Lib.hid (heap_below BB K.out)
  have HA := Lib.hid hA; have DA := Lib.hid (tdA.below BA)
  clear hb2 hA BA BB tdA
  clear K HS
  obtain ⟨p0A, p1A⟩ := box2 HA.out
  go_wp2_with (with_reducible refine wpList_store_last rfl 28 (.tmp 4) (.tmp 10) rfl dg0 #[.slice aA tA.canon.nodes.length cA, .int .i64 tA.canon.root] rfl rfl sizedg rfl (by simp [Value.oneCell']) ?_)
  clear p0A p1A eA hBA
  refine (least_t DA.out).mono ?_
  rintro e w4 ⟨rfl, hb4⟩
  replace HA := Lib.hid (heap_below hb4 HA.out)
  replace DA := Lib.hid (DA.out.below hb4)
  replace BW := Lib.hid (BW.out.trans (hb4.mono BW.out.size))
  clear hb4
  by_cases hl : tA = .leaf false
  · rw [if_pos hl]
    subst hl
    simp only [ne_eq, not_true_eq_false, decide_false, Int.natCast_zero]
    go_wp2_with (fail)
    have HAd : Hid (w4.drew.heap[bA]? = some (.cells #[.slice aA (T.leaf false).canon.nodes.length cA, .int .i64 (T.leaf false).canon.root] 28 (0, 0))) := HA.out
    have DAd := Lib.hid (DA.out.below (Below.refl _ w4).drew)
    have BWd := Lib.hid (BW.out.drew)
    refine wp_region_held_drew (S := fun w' => w'.cell? ⟨bA, 0, none⟩ = some (.slice aA (T.leaf false).canon.nodes.length cA) ∧ w'.cell? ⟨bA, 1, none⟩ = some (.int .i64 (T.leaf false).canon.root)) (by kernel_rfl) (box2 HAd.out) (fun hS => ?_)
    refine wpAnyH_take (i := 0) (v := (dval aA cA (T.leaf false))) rfl (by kernel_rfl) (by kernel_rfl) (by kernel_rfl) (fun _ _ _ h => h) (Or.inl ⟨by rfl, ?_⟩) hS ?_
    · intro w hSw
      go_split_ands
      go_simp
    try simp only [Act.put, List.getElem_toArray, List.getElem_cons_zero, List.getElem_cons_succ, List.setIfInBounds_toArray, List.set_cons_zero, List.set_cons_succ]
    refine wpAnyH_ready (rs := [1]) (by kernel_rfl) (by simp) ?_
    refine AllReadyH.cons rfl (fun K hK => ?_) AllReadyH.nil
    try simp only [Act.put, List.getElem_toArray, List.getElem_cons_zero, List.getElem_cons_succ, List.setIfInBounds_toArray, List.set_cons_zero, List.set_cons_succ]
    go_simp
    refine (constant_t w4.drew false).mono ?_
    rintro e w8 ⟨⟨aC, cC, rfl, tdC⟩, hb8⟩
    have HA8 := Lib.hid (heap_below hb8 HAd.out); have DA8 := Lib.hid (DAd.out.below hb8); have TC := Lib.hid tdC
    have BW8 := Lib.hid (BWd.out.trans (hb8.mono BWd.out.size))
    clear hb8 tdC
    refine hK.out _ _ (box2 HA8.out) (fun hS => ?_)
    clear hK K
    try simp only [Act.put, List.getElem_toArray, List.getElem_cons_zero, List.getElem_cons_succ, List.setIfInBounds_toArray, List.set_cons_zero, List.set_cons_succ]
    refine wpAnyH_ready (rs := [2]) (by kernel_rfl) (by simp) ?_
    refine AllReadyH.cons rfl (fun K hK => ?_) AllReadyH.nil
    try simp only [Act.put, List.getElem_toArray, List.getElem_cons_zero, List.getElem_cons_succ, List.setIfInBounds_toArray, List.set_cons_zero, List.set_cons_succ]
    go_simp
    refine (same_t DA8.out TC.out).mono ?_
    rintro e w9 ⟨rfl, hb9⟩
    rw [show decide (T.leaf false = T.leaf false) = true by simp]
    have HA9 := Lib.hid (heap_below hb9 HA8.out)
    have BW9 := Lib.hid (BW8.out.trans (hb9.mono BW8.out.size))
    clear hb9
    refine hK.out _ _ (box2 HA9.out) (fun hS => ?_)
    clear hK K
    try simp only [Act.put, List.getElem_toArray, List.getElem_cons_zero, List.getElem_cons_succ, List.setIfInBounds_toArray, List.set_cons_zero, List.set_cons_succ]
    refine wpAnyH_take (i := 3) (v := .bool true) rfl (by kernel_rfl) (by kernel_rfl) (by kernel_rfl) (fun _ _ _ h => h) (Or.inl ⟨by rfl, ?_⟩) hS ?_
    · intro w hSw
      go_split_ands
      go_simp
    try simp only [Act.put, List.getElem_toArray, List.getElem_cons_zero, List.getElem_cons_succ, List.setIfInBounds_toArray, List.set_cons_zero, List.set_cons_succ]
    refine wpAnyH_take (i := 4) (v := .int .u64 0) rfl (by kernel_rfl) (by kernel_rfl) (by kernel_rfl) (fun _ _ _ h => h) (Or.inl ⟨by rfl, ?_⟩) hS ?_
    · intro w hSw
      go_split_ands
      go_simp
    try simp only [Act.put, List.getElem_toArray, List.getElem_cons_zero, List.getElem_cons_succ, List.setIfInBounds_toArray, List.set_cons_zero, List.set_cons_succ]
    refine wpAnyH_take (i := 5) (v := .bool true) rfl (by kernel_rfl) (by kernel_rfl) (by kernel_rfl) (fun _ _ _ h => h) (Or.inl ⟨by rfl, ?_⟩) hS ?_
    · intro w hSw
      go_split_ands
      go_simp
    try simp only [Act.put, List.getElem_toArray, List.getElem_cons_zero, List.getElem_cons_succ, List.setIfInBounds_toArray, List.set_cons_zero, List.set_cons_succ]
    refine wpAnyH_take (i := 6) (v := .bool true) rfl (by kernel_rfl) (by kernel_rfl) (by kernel_rfl) (fun _ _ _ h => h) (Or.inl ⟨by rfl, ?_⟩) hS ?_
    · intro w hSw
      go_split_ands
      go_simp
    try simp only [Act.put, List.getElem_toArray, List.getElem_cons_zero, List.getElem_cons_succ, List.setIfInBounds_toArray, List.set_cons_zero, List.set_cons_succ]
    refine wpAnyH_take (i := 7) (v := .bool true) rfl (by kernel_rfl) (by kernel_rfl) (by kernel_rfl) (fun _ _ _ h => h) (Or.inl ⟨by rfl, ?_⟩) hS ?_
    · intro w hSw
      go_split_ands
      go_simp
    try simp only [Act.put, List.getElem_toArray, List.getElem_cons_zero, List.getElem_cons_succ, List.setIfInBounds_toArray, List.set_cons_zero, List.set_cons_succ]
    refine wpAnyH_take (i := 8) (v := .bool true) rfl (by kernel_rfl) (by kernel_rfl) (by kernel_rfl) (fun _ _ _ h => h) (Or.inl ⟨by rfl, ?_⟩) hS ?_
    · intro w hSw
      go_split_ands
      go_simp
    try simp only [Act.put, List.getElem_toArray, List.getElem_cons_zero, List.getElem_cons_succ, List.setIfInBounds_toArray, List.set_cons_zero, List.set_cons_succ]
    refine wpAnyH_take (i := 9) (v := .bool true) rfl (by kernel_rfl) (by kernel_rfl) (by kernel_rfl) (fun _ _ _ h => h) (Or.inl ⟨by rfl, ?_⟩) hS ?_
    · intro w hSw
      go_split_ands
      go_simp
    try simp only [Act.put, List.getElem_toArray, List.getElem_cons_zero, List.getElem_cons_succ, List.setIfInBounds_toArray, List.set_cons_zero, List.set_cons_succ]
    refine wpAnyH_ready (rs := [10]) (by kernel_rfl) (by simp) ?_
    refine AllReadyH.cons rfl (fun K hK => ?_) AllReadyH.nil
    try simp only [Act.put, List.getElem_toArray, List.getElem_cons_zero, List.getElem_cons_succ, List.setIfInBounds_toArray, List.set_cons_zero, List.set_cons_succ]
    go_simp
    refine hK.out _ _ (box2 HA9.out) (fun hS => ?_)
    clear hK K
    try simp only [Act.put, List.getElem_toArray, List.getElem_cons_zero, List.getElem_cons_succ, List.setIfInBounds_toArray, List.set_cons_zero, List.set_cons_succ]
    refine wpAnyH_done (by kernel_rfl) ?_ _
    try simp only [Act.put, List.getElem_toArray, List.getElem_cons_zero, List.getElem_cons_succ, List.setIfInBounds_toArray, List.set_cons_zero, List.set_cons_succ]
    clear hS
    go_wp2_with (fail)
    go_ret
    exact ⟨by rfl, BW9.out⟩
  · have hd : decide (tA ≠ .leaf false) = true := by simpa using hl
    rw [if_neg hl, hd]
    have hl6 : tA.lst < 64 := Nat.lt_of_lt_of_le (T.lst_small tA BL.out) (show 2 ^ (N % 7) ≤ 2 ^ 6 from Nat.pow_le_pow_right (by omega) (by omega))
    have hmin := T.lst_le tA DA.out.ok
    have hin := T.lst_in tA DA.out.ok hl
    obtain ⟨m, hm⟩ : ∃ m, tA.lst = m := ⟨_, rfl⟩
    rw [hm] at hl6 hmin hin ⊢
    have HMIN := Lib.hid hmin; have HIN := Lib.hid hin
    have hm0 : (0 : Int) ≤ (m : Int) := by omega
    have hm1 : (m : Int) < 64 := by omega
    have B0' : Hid (Below w4.heap.size w4 w4) := Below.refl _ _
    clear hl hd hmin hin hm
    go_wp2_with (fail)
    go_loopw [7] (fun i wr => ∃ j : Nat, j ≤ m ∧ i = .int .u64 j ∧ Hid (Below w4.heap.size w4 wr)) (fun i _ => m - (intOf i).toNat)
    case atStart => exact ⟨0, Nat.zero_le _, rfl, B0'⟩
    case round =>
      clear B0'
      obtain ⟨j, hj, rfl, BR⟩ := hrel
      obtain ⟨x0, x1⟩ := box2 (heap_below BR.out HA.out)
      by_cases hlt : j < m
      · have hj1 : (j : Int) < (m : Int) := by omega
        have hj2 : (j : Int) < 64 := by omega
        have hev : tA.ev (bits j) = false := by
          cases h : tA.ev (bits j) with
          | false => rfl
          | true => have := HMIN.out j h; omega
        have HC := Lib.hid (holds_k (DA.out.below BR.out) j (by omega) false hev)
        clear hev
        go_wp2_with (fail)
        refine HC.out.mono ?_
        rintro e w9 ⟨rfl, hb9⟩
        have BR9 := Lib.hid (BR.out.trans (hb9.mono BR.out.size))
        clear hb9 x0 x1 HC
        go_wp2_with (fail)
        go_roundw
        case rel => exact ⟨j + 1, by omega, by go_num, BR9⟩
        case measure => simp [intOf]; omega
      · obtain rfl : j = m := by omega
        have HC := Lib.hid (holds_k (DA.out.below BR.out) j (by omega) true HIN.out)
        go_wp2_with (fail)
        refine HC.out.mono ?_
        rintro e w9 ⟨rfl, hb9⟩
        have BF := Lib.hid (BW.out.trans ((BR.out.trans (hb9.mono BR.out.size)).mono BW.out.size))
        clear hb9 x0 x1 HC
        go_wp2_with (fail)
        go_ret
        exact ⟨by rfl, BF.out⟩

end Go.Proofs.Ytohmibmakelclaa

namespace Go.Proofs.Ytohmibmakelclaa
set_option linter.unusedVariables false
set_option linter.unusedSimpArgs false
open Go.RowKit

theorem upd_same (x : Nat → Bool) (v : Nat) : upd x v (x v) = x := by
  funext i; unfold upd; split
  · rename_i h; rw [h]
  · rfl
theorem upd_upd (x : Nat → Bool) (v : Nat) (a b : Bool) : upd (upd x v a) v b = upd x v b := by
  funext i; unfold upd; split <;> rfl
theorem same_k {w : World} {va vb : Value} {t : T} (ha : TD w va t) (hb : TD w vb t) : Calls Try.prog 24 #[va, vb] w fun e w' => e = .returned (.bool true) ∧ Below w.heap.size w w' := by
  refine (same_t ha hb).mono ?_
  rintro e w' ⟨rfl, hbl⟩
  exact ⟨by simp, hbl⟩
theorem back_ev {t h l : T} {v : Nat} (hh : ∀ x, h.ev x = t.ev (upd x v true)) (hl : ∀ x, l.ev x = t.ev (upd x v false)) (x : Nat → Bool) : t.ev x = ((litT v).ev x && h.ev x || !(litT v).ev x && l.ev x) := by
  rw [hh, hl]
  have e : (litT v).ev x = x v := by simp [T.ev]
  rw [e]
  have := upd_same x v
  cases hx : x v <;> rw [hx] at this <;> simp [this]

set_option maxRecDepth 100000 in
set_option maxHeartbeats 4000000 in
theorem expansionLaw (w : World) (v : Value) (xs : List Int) (N : Nat) (hs : SetAt w v xs N) (q : Int) (hq : 0 ≤ q ∧ q ≤ 255) :
    Calls Try.prog 7 #[v, .int .u8 q] w fun e w' => e = .returned (.bool true) ∧ Below w.heap.size w w' := by
  obtain ⟨a, c, rfl⟩ := hs.shape
  obtain ⟨w0, b0, e0, hb0, z0, h0, B0⟩ := laid w #[.slice a xs.length c, .int .u8 (N : Int)] 24
  have BW : Hid (Below w.heap.size w w0) := B0
  have K : Hid (w0.heap[b0]? = some (.cells #[.slice a xs.length c, .int .u8 (N : Int)] 24 (0, 0))) := h0
  have HS := Lib.hid (hs.below B0)
  obtain ⟨v, hv⟩ : ∃ v : Nat, q.tmod 64 = v := ⟨(q % 64).toNat, by rw [Int.tmod_eq_emod_of_nonneg hq.1]; omega⟩
  have hv6 : v ≤ 63 := by rw [Int.tmod_eq_emod_of_nonneg hq.1] at hv; omega
  have hvi : (0 : Int) ≤ v ∧ (v : Int) ≤ 63 := by omega
  clear h0 B0 hs
  go_enter Try.func7, Try.ntmps7
  go_wp2_with (fail)
  refine (sanity_any w0).mono ?_
  rintro e w1 ⟨rfl, hb1⟩
  replace HS := Lib.hid (HS.out.below hb1)
  replace BW := Lib.hid (BW.out.trans (hb1.mono BW.out.size))
  replace K := Lib.hid (heap_below hb1 K.out)
  clear hb1
  obtain ⟨k0, k1⟩ := box2v K.out
  go_wp2_with (fail)
  refine (lmade_any w1 _ xs N HS.out).mono ?_
  rintro e w2 ⟨hR, hb2⟩
  obtain ⟨aA, cA, tA, rfl, tdA, blA⟩ := hR.td (by omega)
  have DP : Hid (Dep 6 tA.ev) := T.dep (T.bel_mono blA (by omega))
  clear blA hR k0 k1
  obtain ⟨w3, bA, eA, hBA, -, hA, BA⟩ := laid w2 #[.slice aA tA.canon.nodes.length cA, .int .i64 tA.canon.root] 28
  have BB := hb2.trans (BA.mono hb2.size)
  replace HS := Lib.hid (HS.out.below BB)
  replace BW := Lib.hid (BW.out.trans (BB.mono BW.out.size))
  replace K := Lib.hid (heap_below BB K.out)
  have HA := Lib.hid hA; have DA := Lib.hid (tdA.below BA)
  clear hb2 hA BA BB tdA
  clear K HS
  obtain ⟨p0A, p1A⟩ := box2 HA.out
  go_wp2_with (with_reducible refine wpList_store_last rfl 28 (.tmp 6) (.tmp 25) rfl dg0 #[.slice aA tA.canon.nodes.length cA, .int .i64 tA.canon.root] rfl rfl sizedg rfl (by simp [Value.oneCell']) ?_)
  clear p0A p1A eA hBA
  refine (restrict_t DA.out v hv6 true (few_of_dep (DP.out.res v true))).mono ?_
  rintro e w4 ⟨hR, hb4⟩
  obtain ⟨aH, cH, tH, rfl, evH, tdH, -⟩ := hR
  have EH := Lib.hid evH
  obtain ⟨w5, bH, eH, hBH, -, hH, BH⟩ := laid w4 #[.slice aH tH.canon.nodes.length cH, .int .i64 tH.canon.root] 28
  have BB := hb4.trans (BH.mono hb4.size)
  replace HA := Lib.hid (heap_below BB HA.out)
  replace DA := Lib.hid (DA.out.below BB)
  replace BW := Lib.hid (BW.out.trans (BB.mono BW.out.size))
  have HH := Lib.hid hH; have DH := Lib.hid (tdH.below BH)
  clear hb4 hH BH BB tdH
  clear evH
  obtain ⟨p0A, p1A⟩ := box2 HA.out
  go_wp2_with (with_reducible refine wpList_store_last rfl 28 (.tmp 8) (.tmp 33) rfl dg0 #[.slice aH tH.canon.nodes.length cH, .int .i64 tH.canon.root] rfl rfl sizedg rfl (by simp [Value.oneCell']) ?_)
  clear p0A p1A eH hBH
  refine (restrict_t DA.out v hv6 false (few_of_dep (DP.out.res v false))).mono ?_
  rintro e w6 ⟨hR, hb6⟩
  obtain ⟨aL, cL, tL, rfl, evL, tdL, -⟩ := hR
  have EL := Lib.hid evL
  obtain ⟨w7, bL, eL, hBL, -, hL, BL⟩ := laid w6 #[.slice aL tL.canon.nodes.length cL, .int .i64 tL.canon.root] 28
  have BB := hb6.trans (BL.mono hb6.size)
  replace HA := Lib.hid (heap_below BB HA.out)
  replace DA := Lib.hid (DA.out.below BB)
  replace HH := Lib.hid (heap_below BB HH.out)
  replace DH := Lib.hid (DH.out.below BB)
  replace BW := Lib.hid (BW.out.trans (BB.mono BW.out.size))
  have HL := Lib.hid hL; have DL := Lib.hid (tdL.below BL)
  clear hb6 hL BL BB tdL
  clear evL
  obtain ⟨p0A, p1A⟩ := box2 HA.out
  go_wp2_with (with_reducible refine wpList_store_last rfl 28 (.tmp 10) (.tmp 39) rfl dg0 #[.slice aL tL.canon.nodes.length cL, .int .i64 tL.canon.root] rfl rfl sizedg rfl (by simp [Value.oneCell']) ?_)
  clear p0A p1A eL hBL
  refine (exists_t DA.out v hv6 (few_of_dep ((DP.out.res v false).or (DP.out.res v true)))).mono ?_
  rintro e w8 ⟨hR, hb8⟩
  obtain ⟨aC, cC, tC, rfl, evC, tdC, -⟩ := hR
  have EC := Lib.hid evC
  obtain ⟨w9, bC, eC, hBC, -, hC, BC⟩ := laid w8 #[.slice aC tC.canon.nodes.length cC, .int .i64 tC.canon.root] 28
  have BB := hb8.trans (BC.mono hb8.size)
  replace HA := Lib.hid (heap_below BB HA.out)
  replace DA := Lib.hid (DA.out.below BB)
  replace HH := Lib.hid (heap_below BB HH.out)
  replace DH := Lib.hid (DH.out.below BB)
  replace HL := Lib.hid (heap_below BB HL.out)
  replace DL := Lib.hid (DL.out.below BB)
  replace BW := Lib.hid (BW.out.trans (BB.mono BW.out.size))
  have HC := Lib.hid hC; have DC := Lib.hid (tdC.below BC)
  clear hb8 hC BC BB tdC
  clear evC
  go_wp2_with (with_reducible refine wpList_store_last rfl 28 (.tmp 12) (.tmp 45) rfl dg0 #[.slice aC tC.canon.nodes.length cC, .int .i64 tC.canon.root] rfl rfl sizedg rfl (by simp [Value.oneCell']) ?_)
  clear eC hBC
  refine (var_t w9 v hv6).mono ?_
  rintro e w10 ⟨⟨aX, cX, rfl, tdX, -⟩, hb10⟩
  obtain ⟨w11, bX, eX, hBX, -, hX, BX⟩ := laid w10 #[.slice aX (litT v).canon.nodes.length cX, .int .i64 (litT v).canon.root] 28
  have BB := hb10.trans (BX.mono hb10.size)
  replace HA := Lib.hid (heap_below BB HA.out)
  replace DA := Lib.hid (DA.out.below BB)
  replace HH := Lib.hid (heap_below BB HH.out)
  replace DH := Lib.hid (DH.out.below BB)
  replace HL := Lib.hid (heap_below BB HL.out)
  replace DL := Lib.hid (DL.out.below BB)
  replace HC := Lib.hid (heap_below BB HC.out)
  replace DC := Lib.hid (DC.out.below BB)
  replace BW := Lib.hid (BW.out.trans (BB.mono BW.out.size))
  have HX := Lib.hid hX; have DX := Lib.hid (tdX.below BX)
  clear hb10 hX BX BB tdX
  obtain ⟨p0X, p1X⟩ := box2 HX.out
  obtain ⟨p0H, p1H⟩ := box2 HH.out
  obtain ⟨p0L, p1L⟩ := box2 HL.out
  go_wp2_with (with_reducible refine wpList_store_last rfl 28 (.tmp 14) (.tmp 50) rfl dg0 #[.slice aX (litT v).canon.nodes.length cX, .int .i64 (litT v).canon.root] rfl rfl sizedg rfl (by simp [Value.oneCell']) ?_)
  clear p0X p1X p0H p1H p0L p1L eX hBX
  refine (choose_t DX.out DH.out DL.out (few_of_tree DA.out.ok (back_ev EH.out EL.out) DA.out.len)).mono ?_
  rintro e w12 ⟨hR, hb12⟩
  obtain ⟨aM, cM, rfl, tdM, -⟩ := hR.known DA.out.ok (back_ev EH.out EL.out)
  obtain ⟨w13, bM, eM, hBM, -, hM, BM⟩ := laid w12 #[.slice aM tA.canon.nodes.length cM, .int .i64 tA.canon.root] 28
  have BB := hb12.trans (BM.mono hb12.size)
  replace HA := Lib.hid (heap_below BB HA.out)
  replace DA := Lib.hid (DA.out.below BB)
  replace HH := Lib.hid (heap_below BB HH.out)
  replace DH := Lib.hid (DH.out.below BB)
  replace HL := Lib.hid (heap_below BB HL.out)
  replace DL := Lib.hid (DL.out.below BB)
  replace HC := Lib.hid (heap_below BB HC.out)
  replace DC := Lib.hid (DC.out.below BB)
  replace HX := Lib.hid (heap_below BB HX.out)
  replace DX := Lib.hid (DX.out.below BB)
  replace BW := Lib.hid (BW.out.trans (BB.mono BW.out.size))
  have HM := Lib.hid hM; have DM := Lib.hid (tdM.below BM)
  clear hb12 hM BM BB tdM
  clear hR
  obtain ⟨p0H, p1H⟩ := box2 HH.out
  obtain ⟨p0L, p1L⟩ := box2 HL.out
  go_wp2_with (with_reducible refine wpList_store_last rfl 28 (.tmp 16) (.tmp 57) rfl dg0 #[.slice aM tA.canon.nodes.length cM, .int .i64 tA.canon.root] rfl rfl sizedg rfl (by simp [Value.oneCell']) ?_)
  clear p0H p1H p0L p1L eM hBM
  refine (or_t DH.out DL.out (few_of_tree DC.out.ok (fun x => by rw [EC.out x, EH.out x, EL.out x, Bool.or_comm]) DC.out.len)).mono ?_
  rintro e w14 ⟨hR, hb14⟩
  obtain ⟨aU, cU, rfl, tdU, -⟩ := hR.known DC.out.ok (fun x => by rw [EC.out x, EH.out x, EL.out x, Bool.or_comm])
  obtain ⟨w15, bU, eU, hBU, -, hU, BU⟩ := laid w14 #[.slice aU tC.canon.nodes.length cU, .int .i64 tC.canon.root] 28
  have BB := hb14.trans (BU.mono hb14.size)
  replace HA := Lib.hid (heap_below BB HA.out)
  replace DA := Lib.hid (DA.out.below BB)
  replace HH := Lib.hid (heap_below BB HH.out)
  replace DH := Lib.hid (DH.out.below BB)
  replace HL := Lib.hid (heap_below BB HL.out)
  replace DL := Lib.hid (DL.out.below BB)
  replace HC := Lib.hid (heap_below BB HC.out)
  replace DC := Lib.hid (DC.out.below BB)
  replace HX := Lib.hid (heap_below BB HX.out)
  replace DX := Lib.hid (DX.out.below BB)
  replace HM := Lib.hid (heap_below BB HM.out)
  replace DM := Lib.hid (DM.out.below BB)
  replace BW := Lib.hid (BW.out.trans (BB.mono BW.out.size))
  have HU := Lib.hid hU; have DU := Lib.hid (tdU.below BU)
  clear hb14 hU BU BB tdU
  clear hR
  obtain ⟨p0H, p1H⟩ := box2 HH.out
  go_wp2_with (with_reducible refine wpList_store_last rfl 28 (.tmp 18) (.tmp 63) rfl dg0 #[.slice aU tC.canon.nodes.length cU, .int .i64 tC.canon.root] rfl rfl sizedg rfl (by simp [Value.oneCell']) ?_)
  clear p0H p1H eU hBU
  refine (restrict_t DH.out v hv6 false (few_of_tree DH.out.ok (fun x => by rw [EH.out x, EH.out, upd_upd]) DH.out.len)).mono ?_
  rintro e w16 ⟨hR, hb16⟩
  obtain ⟨aS, cS, rfl, tdS, -⟩ := hR.known DH.out.ok (fun x => by rw [EH.out x, EH.out, upd_upd])
  obtain ⟨w17, bS, eS, hBS, -, hS, BS⟩ := laid w16 #[.slice aS tH.canon.nodes.length cS, .int .i64 tH.canon.root] 28
  have BB := hb16.trans (BS.mono hb16.size)
  replace HA := Lib.hid (heap_below BB HA.out)
  replace DA := Lib.hid (DA.out.below BB)
  replace HH := Lib.hid (heap_below BB HH.out)
  replace DH := Lib.hid (DH.out.below BB)
  replace HL := Lib.hid (heap_below BB HL.out)
  replace DL := Lib.hid (DL.out.below BB)
  replace HC := Lib.hid (heap_below BB HC.out)
  replace DC := Lib.hid (DC.out.below BB)
  replace HX := Lib.hid (heap_below BB HX.out)
  replace DX := Lib.hid (DX.out.below BB)
  replace HM := Lib.hid (heap_below BB HM.out)
  replace DM := Lib.hid (DM.out.below BB)
  replace HU := Lib.hid (heap_below BB HU.out)
  replace DU := Lib.hid (DU.out.below BB)
  replace BW := Lib.hid (BW.out.trans (BB.mono BW.out.size))
  have HS := Lib.hid hS; have DS := Lib.hid (tdS.below BS)
  clear hb16 hS BS BB tdS
  clear hR
  obtain ⟨p0M, p1M⟩ := box2 HM.out
  obtain ⟨p0A, p1A⟩ := box2 HA.out
  go_wp2_with (with_reducible refine wpList_store_last rfl 28 (.tmp 20) (.tmp 69) rfl dg0 #[.slice aS tH.canon.nodes.length cS, .int .i64 tH.canon.root] rfl rfl sizedg rfl (by simp [Value.oneCell']) ?_)
  clear p0M p1M p0A p1A eS hBS
  refine (same_k DM.out DA.out).mono ?_
  rintro e w18 ⟨rfl, hb18⟩
  replace HA := Lib.hid (heap_below hb18 HA.out)
  replace DA := Lib.hid (DA.out.below hb18)
  replace HH := Lib.hid (heap_below hb18 HH.out)
  replace DH := Lib.hid (DH.out.below hb18)
  replace HL := Lib.hid (heap_below hb18 HL.out)
  replace DL := Lib.hid (DL.out.below hb18)
  replace HC := Lib.hid (heap_below hb18 HC.out)
  replace DC := Lib.hid (DC.out.below hb18)
  replace HX := Lib.hid (heap_below hb18 HX.out)
  replace DX := Lib.hid (DX.out.below hb18)
  replace HM := Lib.hid (heap_below hb18 HM.out)
  replace DM := Lib.hid (DM.out.below hb18)
  replace HU := Lib.hid (heap_below hb18 HU.out)
  replace DU := Lib.hid (DU.out.below hb18)
  replace HS := Lib.hid (heap_below hb18 HS.out)
  replace DS := Lib.hid (DS.out.below hb18)
  replace BW := Lib.hid (BW.out.trans (hb18.mono BW.out.size))
  clear hb18
  obtain ⟨p0C, p1C⟩ := box2 HC.out
  obtain ⟨p0U, p1U⟩ := box2 HU.out
  go_wp2_with (fail)
  clear p0C p1C p0U p1U
  refine (same_k DC.out DU.out).mono ?_
  rintro e w19 ⟨rfl, hb19⟩
  replace HA := Lib.hid (heap_below hb19 HA.out)
  replace DA := Lib.hid (DA.out.below hb19)
  replace HH := Lib.hid (heap_below hb19 HH.out)
  replace DH := Lib.hid (DH.out.below hb19)
  replace HL := Lib.hid (heap_below hb19 HL.out)
  replace DL := Lib.hid (DL.out.below hb19)
  replace HC := Lib.hid (heap_below hb19 HC.out)
  replace DC := Lib.hid (DC.out.below hb19)
  replace HX := Lib.hid (heap_below hb19 HX.out)
  replace DX := Lib.hid (DX.out.below hb19)
  replace HM := Lib.hid (heap_below hb19 HM.out)
  replace DM := Lib.hid (DM.out.below hb19)
  replace HU := Lib.hid (heap_below hb19 HU.out)
  replace DU := Lib.hid (DU.out.below hb19)
  replace HS := Lib.hid (heap_below hb19 HS.out)
  replace DS := Lib.hid (DS.out.below hb19)
  replace BW := Lib.hid (BW.out.trans (hb19.mono BW.out.size))
  clear hb19
  obtain ⟨p0S, p1S⟩ := box2 HS.out
  obtain ⟨p0H, p1H⟩ := box2 HH.out
  go_wp2_with (fail)
  clear p0S p1S p0H p1H
  refine (same_k DS.out DH.out).mono ?_
  rintro e w20 ⟨rfl, hb20⟩
  replace HA := Lib.hid (heap_below hb20 HA.out)
  replace DA := Lib.hid (DA.out.below hb20)
  replace HH := Lib.hid (heap_below hb20 HH.out)
  replace DH := Lib.hid (DH.out.below hb20)
  replace HL := Lib.hid (heap_below hb20 HL.out)
  replace DL := Lib.hid (DL.out.below hb20)
  replace HC := Lib.hid (heap_below hb20 HC.out)
  replace DC := Lib.hid (DC.out.below hb20)
  replace HX := Lib.hid (heap_below hb20 HX.out)
  replace DX := Lib.hid (DX.out.below hb20)
  replace HM := Lib.hid (heap_below hb20 HM.out)
  replace DM := Lib.hid (DM.out.below hb20)
  replace HU := Lib.hid (heap_below hb20 HU.out)
  replace DU := Lib.hid (DU.out.below hb20)
  replace HS := Lib.hid (heap_below hb20 HS.out)
  replace DS := Lib.hid (DS.out.below hb20)
  replace BW := Lib.hid (BW.out.trans (hb20.mono BW.out.size))
  clear hb20
  go_wp2_with (fail)
  go_ret
  exact ⟨by rfl, BW.out⟩

end Go.Proofs.Ytohmibmakelclaa

namespace Go.Proofs.Ytohmibmakelclaa
set_option linter.unusedVariables false
set_option linter.unusedSimpArgs false
open Go.RowKit

/-- A set over n conditions looks at no other. -/
theorem T.ev_agree {n : Nat} : ∀ {t : T}, t.bel n → ∀ (x y : Nat → Bool), (∀ i, i < n → x i = y i) → t.ev x = t.ev y
  | .leaf _, _, _, _, _ => rfl
  | .node v l h, hb, x, y, hxy => by
    simp only [T.ev]
    rw [hxy v hb.1, T.ev_agree hb.2.1 x y hxy, T.ev_agree hb.2.2 x y hxy]

/-- Each choice of n conditions is a number's. -/
theorem cfg (n : Nat) (x : Nat → Bool) : ∃ j, j < 2 ^ n ∧ ∀ i, i < n → bits j i = x i := by
  induction n with
  | zero => exact ⟨0, by simp, fun i h => by omega⟩
  | succ n ih =>
    obtain ⟨j, hj, hx⟩ := ih
    cases hn : x n with
    | false =>
      refine ⟨j, Nat.lt_of_lt_of_le hj (Nat.pow_le_pow_right (by omega) (by omega)), fun i hi => ?_⟩
      rcases Nat.lt_or_eq_of_le (Nat.le_of_lt_succ hi) with h | rfl
      · exact hx i h
      · rw [hn]; exact Nat.testBit_lt_two_pow hj
    | true =>
      refine ⟨j ||| 2 ^ n, Nat.or_lt_two_pow (Nat.lt_of_lt_of_le hj (Nat.pow_le_pow_right (by omega) (by omega))) (Nat.pow_lt_pow_right (by omega) (by omega)), fun i hi => ?_⟩
      rw [bits_or]
      unfold upd
      split
      · rename_i h; subst h; exact hn.symm
      · exact hx i (by omega)

/-- The union of those of the first k configurations that lie in a. -/
def Uni (t a : T) (n k : Nat) : Prop := Dep n t.ev ∧ ∀ x, t.ev x = true ↔ ∃ j, j < k ∧ a.ev (bits j) = true ∧ ∀ i, i < n → x i = bits j i
/-- The configurations that agree with k in the first m conditions. -/
def One (t : T) (k m n : Nat) : Prop := Dep n t.ev ∧ ∀ x, t.ev x = true ↔ ∀ i, i < m → x i = bits k i

theorem Uni.zero (a : T) (n : Nat) : Uni (.leaf false) a n 0 := ⟨fun _ _ _ _ => rfl, fun x => by simp [T.ev]⟩
theorem Uni.out {t a : T} {n k : Nat} (h : Uni t a n k) (hk : a.ev (bits k) = false) : Uni t a n (k + 1) := ⟨h.1, fun x => by
  rw [h.2]
  constructor
  · rintro ⟨j, hj, h1⟩; exact ⟨j, by omega, h1⟩
  · rintro ⟨j, hj, h1, h2⟩
    refine ⟨j, ?_, h1, h2⟩
    have : j ≠ k := fun e => by rw [e, hk] at h1; cases h1
    omega⟩
theorem Uni.put {t a u o : T} {n k : Nat} (h : Uni t a n k) (hk : a.ev (bits k) = true) (ho : One o k n n) (hu : ∀ x, u.ev x = (o.ev x || t.ev x)) : Uni u a n (k + 1) := by
  constructor
  · rw [show u.ev = _ from funext hu]; exact ho.1.or h.1
  · intro x
    rw [hu, Bool.or_eq_true, ho.2, h.2]
    constructor
    · rintro (h1 | ⟨j, hj, h1⟩)
      · exact ⟨k, by omega, hk, h1⟩
      · exact ⟨j, by omega, h1⟩
    · rintro ⟨j, hj, h1, h2⟩
      rcases Nat.lt_or_eq_of_le (Nat.le_of_lt_succ hj) with hlt | rfl
      · exact .inr ⟨j, hlt, h1, h2⟩
      · exact .inl h2
theorem Uni.done {t a : T} {n : Nat} (h : Uni t a n (2 ^ n)) (ok : t.Ok) (oka : a.Ok) (hb : a.bel n) : t = a :=
  T.same ok oka (fun x => by
    have h1 := h.2 x
    obtain ⟨j, hj, hx⟩ := cfg n x
    rw [Bool.eq_iff_iff, h1]
    constructor
    · rintro ⟨i, -, hi, hxi⟩; rw [T.ev_agree hb x (bits i) hxi]; exact hi
    · intro ha; exact ⟨j, hj, by rw [T.ev_agree hb (bits j) x hx]; exact ha, fun i hi => (hx i hi).symm⟩)
theorem One.zero (k n : Nat) : One (.leaf true) k 0 n := ⟨fun _ _ _ _ => rfl, fun x => by simp [T.ev]⟩
theorem One.next {o u : T} {k m n : Nat} (h : One o k m n) (hm : m < n) (hu : ∀ x, u.ev x = (o.ev x && (litB m (bits k m)).ev x)) : One u k (m + 1) n := by
  constructor
  · rw [show u.ev = _ from funext hu]
    refine h.1.and ?_
    rw [show (litB m (bits k m)).ev = fun x => (x m == bits k m) from funext (litB_ev m _)]
    intro c i b hi
    simp only [upd]; rw [if_neg (by omega)]
  · intro x
    rw [hu, Bool.and_eq_true, h.2, litB_ev, beq_iff_eq]
    constructor
    · rintro ⟨h1, h2⟩ i hi
      rcases Nat.lt_or_eq_of_le (Nat.le_of_lt_succ hi) with hlt | rfl
      · exact h1 i hlt
      · exact h2
    · intro h1; exact ⟨fun i hi => h1 i (by omega), h1 m (by omega)⟩
theorem One.few {o : T} {k m n : Nat} (h : One o k m n) (hm : m < n) (hn : n ≤ 6) : Few (fun x => o.ev x && (litB m (bits k m)).ev x) := by
  refine few_of_dep ((h.1.and ?_).mono hn)
  rw [show (litB m (bits k m)).ev = fun x => (x m == bits k m) from funext (litB_ev m _)]
  intro c i b hi
  simp only [upd]; rw [if_neg (by omega)]
theorem Uni.few {o t a : T} {k n : Nat} (h : Uni t a n k) (ho : One o k n n) (hn : n ≤ 6) : Few (fun x => o.ev x || t.ev x) := few_of_dep ((ho.1.or h.1).mono hn)
/-- Two sets that hold the same configurations are the same. -/
theorem same_all {s t : T} {n : Nat} (oks : s.Ok) (okt : t.Ok) (hs : s.bel n) (ht : t.bel n) : s = t ↔ ∀ j, j < 2 ^ n → s.ev (bits j) = t.ev (bits j) := by
  constructor
  · rintro rfl _ _; rfl
  · intro h
    refine T.same oks okt (fun x => ?_)
    obtain ⟨j, hj, hx⟩ := cfg n x
    rw [← T.ev_agree hs (bits j) x hx, ← T.ev_agree ht (bits j) x hx]
    exact h j hj

/-- One cell of a box is stored into. -/
theorem put1 {w0 w : World} {b : Nat} {a0 a1 c1 : Value} {t : TypeId} (h : w.heap[b]? = some (.cells #[a0, a1] t (0, 0))) (hs : Below w0.heap.size w0 w) (hb : w0.heap.size ≤ b) :
    ∃ w', w.setCell ⟨b, 1, none⟩ c1 = w' ∧ w'.heap[b]? = some (.cells #[a0, c1] t (0, 0)) ∧ Below w0.heap.size w0 w' ∧ Step (fun k => k = b) w (fun k => k = b) w' := by
  refine ⟨_, rfl, ?_, hs.setCell hb _, (Step.refl (fun k => k = b) w).setCell (.inl rfl) _⟩
  rw [heap_setCell_same _ b 1 _ _ c1 h]; rfl

theorem heap_lt {w : World} {b : Nat} {o : Obj} (h : w.heap[b]? = some o) : b < w.heap.size := by rw [Array.getElem?_eq_some_iff] at h; exact h.1
theorem DgAt.newer {w w' : World} {M M' : Nat → Prop} {v : Value} {D : Dg} (h : DgAt w M v D) (hb : Below w.heap.size w w') (hM : ∀ k, M' k → M k ∨ w.heap.size ≤ k) : DgAt w' M' v D :=
  h.step ((Step.of_below hb M).to (fun _ h => h) hM)

/-- A diagram in a box: the box, and the diagram, apart from M. -/
structure In (w : World) (M : Nat → Prop) (b : Nat) (a : Option Addr) (c : Nat) (t : T) : Prop where
  box : w.heap[b]? = some (.cells #[.slice a t.canon.nodes.length c, .int .i64 t.canon.root] 28 (0, 0))
  at' : DgAt w M (dval a c t) t.canon
  ok : t.Ok
  len : t.canon.nodes.length ≤ 4096
theorem In.td {w : World} {M : Nat → Prop} {b : Nat} {a : Option Addr} {c : Nat} {t : T} (h : In w M b a c t) : TD w (dval a c t) t := ⟨h.at'.wide (fun k hk => hk.elim), h.ok, h.len⟩
theorem In.fresh {w w' : World} {M M' : Nat → Prop} {b : Nat} {a : Option Addr} {c : Nat} {t : T} (h : In w M b a c t) (hb : Below w.heap.size w w') (hM : ∀ k, M' k → M k ∨ w.heap.size ≤ k) : In w' M' b a c t :=
  ⟨heap_below hb h.box, h.at'.newer hb hM, h.ok, h.len⟩
theorem In.below {w w' : World} {M : Nat → Prop} {b : Nat} {a : Option Addr} {c : Nat} {t : T} (h : In w M b a c t) (hb : Below w.heap.size w w') : In w' M b a c t := h.fresh hb (fun k hk => .inl hk)
theorem In.put {w w' : World} {M : Nat → Prop} {b q : Nat} {a : Option Addr} {c : Nat} {t : T} (h : In w M b a c t) (hs : Step (fun k => k = q) w (fun k => k = q) w') (hq : M q) (hb : b ≠ q) : In w' M b a c t :=
  ⟨(hs.block b (heap_lt h.box) hb).trans h.box, h.at'.step (hs.wide (fun k hk => by rw [hk]; exact hq)), h.ok, h.len⟩
theorem In.wide {w : World} {M M' : Nat → Prop} {b : Nat} {a : Option Addr} {c : Nat} {t : T} (h : In w M b a c t) (hM : ∀ k, M' k → M k) : In w M' b a c t := ⟨h.box, h.at'.wide hM, h.ok, h.len⟩

end Go.Proofs.Ytohmibmakelclaa

namespace Go.Proofs.Ytohmibmakelclaa
set_option linter.unusedVariables false
set_option linter.unusedSimpArgs false
open Go.RowKit

theorem with_G {P : Program} {md : Region.Mode} {ops : Array Oper} {Q : Exit → Act → World → Prop} {S : World → Prop} {fuel : Nat} {listed : Array Bool} {a : Act} {w : World}
    (h : ∀ G : Nat → Array Bool → Act → World → Prop, (∀ f l a w, G f l a w = wpAnyH P md ops Q S f l a w) → G fuel listed a w) : wpAnyH P md ops Q S fuel listed a w :=
  h _ (fun _ _ _ _ => rfl)
theorem box6v {w0 : World} {b : Nat} {x0 x1 x2 x3 x4 x5 : Value} {t : TypeId} (h : w0.heap[b]? = some (.cells #[x0, x1, x2, x3, x4, x5] t (0, 0))) :
    w0.cell? ⟨b, 0, none⟩ = some x0 ∧ w0.cell? ⟨b, 1, none⟩ = some x1 ∧ w0.cell? ⟨b, 2, none⟩ = some x2 ∧ w0.cell? ⟨b, 3, none⟩ = some x3 ∧ w0.cell? ⟨b, 4, none⟩ = some x4 ∧ w0.cell? ⟨b, 5, none⟩ = some x5 :=
  ⟨by rw [cell_of_row w0 b 0 _ _ _ h]; rfl, by rw [cell_of_row w0 b 1 _ _ _ h]; rfl, by rw [cell_of_row w0 b 2 _ _ _ h]; rfl, by rw [cell_of_row w0 b 3 _ _ _ h]; rfl, by rw [cell_of_row w0 b 4 _ _ _ h]; rfl, by rw [cell_of_row w0 b 5 _ _ _ h]; rfl⟩

end Go.Proofs.Ytohmibmakelclaa
