/-
  DiagramLeast: the walk.
  No condition.
-/
import Derived.Test.YtohmibmakelclaaPkQ
import Derived.Test.YtohmibmakelclaaPkR
import Derived.WalkKit
import Derived.ProofKit
import Derived.OpenShut
namespace Go.Proofs.Ytohmibmakelclaa
set_option linter.unusedVariables false
set_option linter.unusedSimpArgs false
open Go.RowKit

/-- The diagram of a set of few conditions. -/
theorem SetOf.td {w w' : World} {e : Ending} {n : Nat} (h : SetOf w w' e n) (hn : n ≤ 6) : ∃ (a : Option Addr) (c : Nat) (t : T), e = .returned (dval a c t) ∧ TD w' (dval a c t) t ∧ t.bel n := by
  obtain ⟨a, c, t, rfl, ok, bl, hM⟩ := h
  exact ⟨a, c, t, rfl, ⟨hM NoB (fun b h => h.elim), ok, Nat.le_trans (ok.small bl hn) (by decide)⟩, bl⟩

set_option maxRecDepth 100000 in
set_option maxHeartbeats 4000000 in
theorem leastLaw (w : World) (v : Value) (xs : List Int) (N : Nat) (hs : SetAt w v xs N) :
    Calls Try.prog 8 #[v] w fun e w' => e = .returned (.bool true) ∧ Below w.heap.size w w' := by
  obtain ⟨a, c, rfl⟩ := hs.shape
  obtain ⟨w0, b0, e0, hb0, z0, h0, B0⟩ := laid w #[.slice a xs.length c, .int .u8 (N : Int)] 24
  have BW : Hid (Below w.heap.size w w0) := B0
  have K : Hid (w0.heap[b0]? = some (.cells #[.slice a xs.length c, .int .u8 (N : Int)] 24 (0, 0))) := h0
  have HS := Lib.hid (hs.below B0)
  clear h0 B0 hs
  go_enter Try.func8, Try.ntmps8
  go_wp2_with (fail)
  refine (sanity_any w0).mono ?_
  rintro e w1 ⟨rfl, hb1⟩
  replace HS := Lib.hid (HS.out.below hb1)
  replace BW := Lib.hid (BW.out.trans (hb1.mono BW.out.size))
  replace K := Lib.hid (heap_below hb1 K.out)
  clear hb1
  obtain ⟨k0, k1⟩ := box2v K.out
  go_wp2_with (fail)
  refine (lmade_any w1 _ xs N HS.out).mono ?_
  rintro e w2 ⟨hR, hb2⟩
  obtain ⟨aA, cA, tA, rfl, tdA, blA⟩ := hR.td (by omega)
  have BL := Lib.hid blA
  clear blA hR k0 k1
  obtain ⟨w3, bA, eA, hBA, -, hA, BA⟩ := laid w2 #[.slice aA tA.canon.nodes.length cA, .int .i64 tA.canon.root] 28
  have BB := hb2.trans (BA.mono hb2.size)
  replace HS := Lib.hid (HS.out.below BB)
  replace BW := Lib.hid (BW.out.trans (BB.mono BW.out.size))
  replace K := Lib.hid (heap_below BB K.out)
  have HA := Lib.hid hA; have DA := Lib.hid (tdA.below BA)
  clear hb2 hA BA BB tdA
  clear K HS
  obtain ⟨p0A, p1A⟩ := box2 HA.out
  go_wp2_with (with_reducible refine wpList_store_last rfl 28 (.tmp 4) (.tmp 10) rfl dg0 #[.slice aA tA.canon.nodes.length cA, .int .i64 tA.canon.root] rfl rfl sizedg rfl (by simp [Value.oneCell']) ?_)
  clear p0A p1A eA hBA
  refine (least_t DA.out).mono ?_
  rintro e w4 ⟨rfl, hb4⟩
  replace HA := Lib.hid (heap_below hb4 HA.out)
  replace DA := Lib.hid (DA.out.below hb4)
  replace BW := Lib.hid (BW.out.trans (hb4.mono BW.out.size))
  clear hb4
  by_cases hl : tA = .leaf false
  · rw [if_pos hl]
    subst hl
    simp only [ne_eq, not_true_eq_false, decide_false, Int.natCast_zero]
    go_wp2_with (fail)
    have HAd : Hid (w4.drew.heap[bA]? = some (.cells #[.slice aA (T.leaf false).canon.nodes.length cA, .int .i64 (T.leaf false).canon.root] 28 (0, 0))) := HA.out
    have DAd := Lib.hid (DA.out.below (Below.refl _ w4).drew)
    have BWd := Lib.hid (BW.out.drew)
    refine wp_region_held_drew (S := fun w' => w'.cell? ⟨bA, 0, none⟩ = some (.slice aA (T.leaf false).canon.nodes.length cA) ∧ w'.cell? ⟨bA, 1, none⟩ = some (.int .i64 (T.leaf false).canon.root)) (by kernel_rfl) (box2 HAd.out) (fun hS => ?_)
    refine wpAnyH_take (i := 0) (v := (dval aA cA (T.leaf false))) rfl (by kernel_rfl) (by kernel_rfl) (by kernel_rfl) (fun _ _ _ h => h) (Or.inl ⟨by rfl, ?_⟩) hS ?_
    · intro w hSw
      go_split_ands
      go_simp
    try simp only [Act.put, List.getElem_toArray, List.getElem_cons_zero, List.getElem_cons_succ, List.setIfInBounds_toArray, List.set_cons_zero, List.set_cons_succ]
    refine wpAnyH_ready (rs := [1]) (by kernel_rfl) (by simp) ?_
    refine AllReadyH.cons rfl (fun K hK => ?_) AllReadyH.nil
    try simp only [Act.put, List.getElem_toArray, List.getElem_cons_zero, List.getElem_cons_succ, List.setIfInBounds_toArray, List.set_cons_zero, List.set_cons_succ]
    go_simp
    refine (constant_t w4.drew false).mono ?_
    rintro e w8 ⟨⟨aC, cC, rfl, tdC⟩, hb8⟩
    have HA8 := Lib.hid (heap_below hb8 HAd.out); have DA8 := Lib.hid (DAd.out.below hb8); have TC := Lib.hid tdC
    have BW8 := Lib.hid (BWd.out.trans (hb8.mono BWd.out.size))
    clear hb8 tdC
    refine hK.out _ _ (box2 HA8.out) (fun hS => ?_)
    clear hK K
    try simp only [Act.put, List.getElem_toArray, List.getElem_cons_zero, List.getElem_cons_succ, List.setIfInBounds_toArray, List.set_cons_zero, List.set_cons_succ]
    refine wpAnyH_ready (rs := [2]) (by kernel_rfl) (by simp) ?_
    refine AllReadyH.cons rfl (fun K hK => ?_) AllReadyH.nil
    try simp only [Act.put, List.getElem_toArray, List.getElem_cons_zero, List.getElem_cons_succ, List.setIfInBounds_toArray, List.set_cons_zero, List.set_cons_succ]
    go_simp
    refine (same_t DA8.out TC.out).mono ?_
    rintro e w9 ⟨rfl, hb9⟩
    rw [show decide (T.leaf false = T.leaf false) = true by simp]
    have HA9 := Lib.hid (heap_below hb9 HA8.out)
    have BW9 := Lib.hid (BW8.out.trans (hb9.mono BW8.out.size))
    clear hb9
    refine hK.out _ _ (box2 HA9.out) (fun hS => ?_)
    clear hK K
    try simp only [Act.put, List.getElem_toArray, List.getElem_cons_zero, List.getElem_cons_succ, List.setIfInBounds_toArray, List.set_cons_zero, List.set_cons_succ]
    refine wpAnyH_take (i := 3) (v := .bool true) rfl (by kernel_rfl) (by kernel_rfl) (by kernel_rfl) (fun _ _ _ h => h) (Or.inl ⟨by rfl, ?_⟩) hS ?_
    · intro w hSw
      go_split_ands
      go_simp
    try simp only [Act.put, List.getElem_toArray, List.getElem_cons_zero, List.getElem_cons_succ, List.setIfInBounds_toArray, List.set_cons_zero, List.set_cons_succ]
    refine wpAnyH_take (i := 4) (v := .int .u64 0) rfl (by kernel_rfl) (by kernel_rfl) (by kernel_rfl) (fun _ _ _ h => h) (Or.inl ⟨by rfl, ?_⟩) hS ?_
    · intro w hSw
      go_split_ands
      go_simp
    try simp only [Act.put, List.getElem_toArray, List.getElem_cons_zero, List.getElem_cons_succ, List.setIfInBounds_toArray, List.set_cons_zero, List.set_cons_succ]
    refine wpAnyH_take (i := 5) (v := .bool true) rfl (by kernel_rfl) (by kernel_rfl) (by kernel_rfl) (fun _ _ _ h => h) (Or.inl ⟨by rfl, ?_⟩) hS ?_
    · intro w hSw
      go_split_ands
      go_simp
    try simp only [Act.put, List.getElem_toArray, List.getElem_cons_zero, List.getElem_cons_succ, List.setIfInBounds_toArray, List.set_cons_zero, List.set_cons_succ]
    refine wpAnyH_take (i := 6) (v := .bool true) rfl (by kernel_rfl) (by kernel_rfl) (by kernel_rfl) (fun _ _ _ h => h) (Or.inl ⟨by rfl, ?_⟩) hS ?_
    · intro w hSw
      go_split_ands
      go_simp
    try simp only [Act.put, List.getElem_toArray, List.getElem_cons_zero, List.getElem_cons_succ, List.setIfInBounds_toArray, List.set_cons_zero, List.set_cons_succ]
    refine wpAnyH_take (i := 7) (v := .bool true) rfl (by kernel_rfl) (by kernel_rfl) (by kernel_rfl) (fun _ _ _ h => h) (Or.inl ⟨by rfl, ?_⟩) hS ?_
    · intro w hSw
      go_split_ands
      go_simp
    try simp only [Act.put, List.getElem_toArray, List.getElem_cons_zero, List.getElem_cons_succ, List.setIfInBounds_toArray, List.set_cons_zero, List.set_cons_succ]
    refine wpAnyH_take (i := 8) (v := .bool true) rfl (by kernel_rfl) (by kernel_rfl) (by kernel_rfl) (fun _ _ _ h => h) (Or.inl ⟨by rfl, ?_⟩) hS ?_
    · intro w hSw
      go_split_ands
      go_simp
    try simp only [Act.put, List.getElem_toArray, List.getElem_cons_zero, List.getElem_cons_succ, List.setIfInBounds_toArray, List.set_cons_zero, List.set_cons_succ]
    refine wpAnyH_take (i := 9) (v := .bool true) rfl (by kernel_rfl) (by kernel_rfl) (by kernel_rfl) (fun _ _ _ h => h) (Or.inl ⟨by rfl, ?_⟩) hS ?_
    · intro w hSw
      go_split_ands
      go_simp
    try simp only [Act.put, List.getElem_toArray, List.getElem_cons_zero, List.getElem_cons_succ, List.setIfInBounds_toArray, List.set_cons_zero, List.set_cons_succ]
    refine wpAnyH_ready (rs := [10]) (by kernel_rfl) (by simp) ?_
    refine AllReadyH.cons rfl (fun K hK => ?_) AllReadyH.nil
    try simp only [Act.put, List.getElem_toArray, List.getElem_cons_zero, List.getElem_cons_succ, List.setIfInBounds_toArray, List.set_cons_zero, List.set_cons_succ]
    go_simp
    refine hK.out _ _ (box2 HA9.out) (fun hS => ?_)
    clear hK K
    try simp only [Act.put, List.getElem_toArray, List.getElem_cons_zero, List.getElem_cons_succ, List.setIfInBounds_toArray, List.set_cons_zero, List.set_cons_succ]
    refine wpAnyH_done (by kernel_rfl) ?_ _
    try simp only [Act.put, List.getElem_toArray, List.getElem_cons_zero, List.getElem_cons_succ, List.setIfInBounds_toArray, List.set_cons_zero, List.set_cons_succ]
    clear hS
    go_wp2_with (fail)
    go_ret
    exact ⟨by rfl, BW9.out⟩
  · have hd : decide (tA ≠ .leaf false) = true := by simpa using hl
    rw [if_neg hl, hd]
    have hl6 : tA.lst < 64 := Nat.lt_of_lt_of_le (T.lst_small tA BL.out) (show 2 ^ (N % 7) ≤ 2 ^ 6 from Nat.pow_le_pow_right (by omega) (by omega))
    have hmin := T.lst_le tA DA.out.ok
    have hin := T.lst_in tA DA.out.ok hl
    obtain ⟨m, hm⟩ : ∃ m, tA.lst = m := ⟨_, rfl⟩
    rw [hm] at hl6 hmin hin ⊢
    have HMIN := Lib.hid hmin; have HIN := Lib.hid hin
    have hm0 : (0 : Int) ≤ (m : Int) := by omega
    have hm1 : (m : Int) < 64 := by omega
    have B0' : Hid (Below w4.heap.size w4 w4) := Below.refl _ _
    clear hl hd hmin hin hm
    go_wp2_with (fail)
    go_loopw [7] (fun i wr => ∃ j : Nat, j ≤ m ∧ i = .int .u64 j ∧ Hid (Below w4.heap.size w4 wr)) (fun i _ => m - (intOf i).toNat)
    case atStart => exact ⟨0, Nat.zero_le _, rfl, B0'⟩
    case round =>
      clear B0'
      obtain ⟨j, hj, rfl, BR⟩ := hrel
      obtain ⟨x0, x1⟩ := box2 (heap_below BR.out HA.out)
      by_cases hlt : j < m
      · have hj1 : (j : Int) < (m : Int) := by omega
        have hj2 : (j : Int) < 64 := by omega
        have hev : tA.ev (bits j) = false := by
          cases h : tA.ev (bits j) with
          | false => rfl
          | true => have := HMIN.out j h; omega
        have HC := Lib.hid (holds_k (DA.out.below BR.out) j (by omega) false hev)
        clear hev
        go_wp2_with (fail)
        refine HC.out.mono ?_
        rintro e w9 ⟨rfl, hb9⟩
        have BR9 := Lib.hid (BR.out.trans (hb9.mono BR.out.size))
        clear hb9 x0 x1 HC
        go_wp2_with (fail)
        go_roundw
        case rel => exact ⟨j + 1, by omega, by go_num, BR9⟩
        case measure => simp [intOf]; omega
      · obtain rfl : j = m := by omega
        have HC := Lib.hid (holds_k (DA.out.below BR.out) j (by omega) true HIN.out)
        go_wp2_with (fail)
        refine HC.out.mono ?_
        rintro e w9 ⟨rfl, hb9⟩
        have BF := Lib.hid (BW.out.trans ((BR.out.trans (hb9.mono BR.out.size)).mono BW.out.size))
        clear hb9 x0 x1 HC
        go_wp2_with (fail)
        go_ret
        exact ⟨by rfl, BF.out⟩

end Go.Proofs.Ytohmibmakelclaa

namespace Go.Proofs.Ytohmibmakelclaa
set_option linter.unusedVariables false
set_option linter.unusedSimpArgs false
open Go.RowKit

theorem upd_same (x : Nat → Bool) (v : Nat) : upd x v (x v) = x := by
  funext i; unfold upd; split
  · rename_i h; rw [h]
  · rfl
theorem upd_upd (x : Nat → Bool) (v : Nat) (a b : Bool) : upd (upd x v a) v b = upd x v b := by
  funext i; unfold upd; split <;> rfl
theorem same_k {w : World} {va vb : Value} {t : T} (ha : TD w va t) (hb : TD w vb t) : Calls Try.prog 24 #[va, vb] w fun e w' => e = .returned (.bool true) ∧ Below w.heap.size w w' := by
  refine (same_t ha hb).mono ?_
  rintro e w' ⟨rfl, hbl⟩
  exact ⟨by simp, hbl⟩
theorem back_ev {t h l : T} {v : Nat} (hh : ∀ x, h.ev x = t.ev (upd x v true)) (hl : ∀ x, l.ev x = t.ev (upd x v false)) (x : Nat → Bool) : t.ev x = ((litT v).ev x && h.ev x || !(litT v).ev x && l.ev x) := by
  rw [hh, hl]
  have e : (litT v).ev x = x v := by simp [T.ev]
  rw [e]
  have := upd_same x v
  cases hx : x v <;> rw [hx] at this <;> simp [this]

set_option maxRecDepth 100000 in
set_option maxHeartbeats 4000000 in
theorem expansionLaw (w : World) (v : Value) (xs : List Int) (N : Nat) (hs : SetAt w v xs N) (q : Int) (hq : 0 ≤ q ∧ q ≤ 255) :
    Calls Try.prog 7 #[v, .int .u8 q] w fun e w' => e = .returned (.bool true) ∧ Below w.heap.size w w' := by
  obtain ⟨a, c, rfl⟩ := hs.shape
  obtain ⟨w0, b0, e0, hb0, z0, h0, B0⟩ := laid w #[.slice a xs.length c, .int .u8 (N : Int)] 24
  have BW : Hid (Below w.heap.size w w0) := B0
  have K : Hid (w0.heap[b0]? = some (.cells #[.slice a xs.length c, .int .u8 (N : Int)] 24 (0, 0))) := h0
  have HS := Lib.hid (hs.below B0)
  obtain ⟨v, hv⟩ : ∃ v : Nat, q.tmod 64 = v := ⟨(q % 64).toNat, by rw [Int.tmod_eq_emod_of_nonneg hq.1]; omega⟩
  have hv6 : v ≤ 63 := by rw [Int.tmod_eq_emod_of_nonneg hq.1] at hv; omega
  have hvi : (0 : Int) ≤ v ∧ (v : Int) ≤ 63 := by omega
  clear h0 B0 hs
  go_enter Try.func7, Try.ntmps7
  go_wp2_with (fail)
  refine (sanity_any w0).mono ?_
  rintro e w1 ⟨rfl, hb1⟩
  replace HS := Lib.hid (HS.out.below hb1)
  replace BW := Lib.hid (BW.out.trans (hb1.mono BW.out.size))
  replace K := Lib.hid (heap_below hb1 K.out)
  clear hb1
  obtain ⟨k0, k1⟩ := box2v K.out
  go_wp2_with (fail)
  refine (lmade_any w1 _ xs N HS.out).mono ?_
  rintro e w2 ⟨hR, hb2⟩
  obtain ⟨aA, cA, tA, rfl, tdA, blA⟩ := hR.td (by omega)
  have DP : Hid (Dep 6 tA.ev) := T.dep (T.bel_mono blA (by omega))
  clear blA hR k0 k1
  obtain ⟨w3, bA, eA, hBA, -, hA, BA⟩ := laid w2 #[.slice aA tA.canon.nodes.length cA, .int .i64 tA.canon.root] 28
  have BB := hb2.trans (BA.mono hb2.size)
  replace HS := Lib.hid (HS.out.below BB)
  replace BW := Lib.hid (BW.out.trans (BB.mono BW.out.size))
  replace K := Lib.hid (heap_below BB K.out)
  have HA := Lib.hid hA; have DA := Lib.hid (tdA.below BA)
  clear hb2 hA BA BB tdA
  clear K HS
  obtain ⟨p0A, p1A⟩ := box2 HA.out
  go_wp2_with (with_reducible refine wpList_store_last rfl 28 (.tmp 6) (.tmp 25) rfl dg0 #[.slice aA tA.canon.nodes.length cA, .int .i64 tA.canon.root] rfl rfl sizedg rfl (by simp [Value.oneCell']) ?_)
  clear p0A p1A eA hBA
  refine (restrict_t DA.out v hv6 true (few_of_dep (DP.out.res v true))).mono ?_
  rintro e w4 ⟨hR, hb4⟩
  obtain ⟨aH, cH, tH, rfl, evH, tdH, -⟩ := hR
  have EH := Lib.hid evH
  obtain ⟨w5, bH, eH, hBH, -, hH, BH⟩ := laid w4 #[.slice aH tH.canon.nodes.length cH, .int .i64 tH.canon.root] 28
  have BB := hb4.trans (BH.mono hb4.size)
  replace HA := Lib.hid (heap_below BB HA.out)
  replace DA := Lib.hid (DA.out.below BB)
  replace BW := Lib.hid (BW.out.trans (BB.mono BW.out.size))
  have HH := Lib.hid hH; have DH := Lib.hid (tdH.below BH)
  clear hb4 hH BH BB tdH
  clear evH
  obtain ⟨p0A, p1A⟩ := box2 HA.out
  go_wp2_with (with_reducible refine wpList_store_last rfl 28 (.tmp 8) (.tmp 33) rfl dg0 #[.slice aH tH.canon.nodes.length cH, .int .i64 tH.canon.root] rfl rfl sizedg rfl (by simp [Value.oneCell']) ?_)
  clear p0A p1A eH hBH
  refine (restrict_t DA.out v hv6 false (few_of_dep (DP.out.res v false))).mono ?_
  rintro e w6 ⟨hR, hb6⟩
  obtain ⟨aL, cL, tL, rfl, evL, tdL, -⟩ := hR
  have EL := Lib.hid evL
  obtain ⟨w7, bL, eL, hBL, -, hL, BL⟩ := laid w6 #[.slice aL tL.canon.nodes.length cL, .int .i64 tL.canon.root] 28
  have BB := hb6.trans (BL.mono hb6.size)
  replace HA := Lib.hid (heap_below BB HA.out)
  replace DA := Lib.hid (DA.out.below BB)
  replace HH := Lib.hid (heap_below BB HH.out)
  replace DH := Lib.hid (DH.out.below BB)
  replace BW := Lib.hid (BW.out.trans (BB.mono BW.out.size))
  have HL := Lib.hid hL; have DL := Lib.hid (tdL.below BL)
  clear hb6 hL BL BB tdL
  clear evL
  obtain ⟨p0A, p1A⟩ := box2 HA.out
  go_wp2_with (with_reducible refine wpList_store_last rfl 28 (.tmp 10) (.tmp 39) rfl dg0 #[.slice aL tL.canon.nodes.length cL, .int .i64 tL.canon.root] rfl rfl sizedg rfl (by simp [Value.oneCell']) ?_)
  clear p0A p1A eL hBL
  refine (exists_t DA.out v hv6 (few_of_dep ((DP.out.res v false).or (DP.out.res v true)))).mono ?_
  rintro e w8 ⟨hR, hb8⟩
  obtain ⟨aC, cC, tC, rfl, evC, tdC, -⟩ := hR
  have EC := Lib.hid evC
  obtain ⟨w9, bC, eC, hBC, -, hC, BC⟩ := laid w8 #[.slice aC tC.canon.nodes.length cC, .int .i64 tC.canon.root] 28
  have BB := hb8.trans (BC.mono hb8.size)
  replace HA := Lib.hid (heap_below BB HA.out)
  replace DA := Lib.hid (DA.out.below BB)
  replace HH := Lib.hid (heap_below BB HH.out)
  replace DH := Lib.hid (DH.out.below BB)
  replace HL := Lib.hid (heap_below BB HL.out)
  replace DL := Lib.hid (DL.out.below BB)
  replace BW := Lib.hid (BW.out.trans (BB.mono BW.out.size))
  have HC := Lib.hid hC; have DC := Lib.hid (tdC.below BC)
  clear hb8 hC BC BB tdC
  clear evC
  go_wp2_with (with_reducible refine wpList_store_last rfl 28 (.tmp 12) (.tmp 45) rfl dg0 #[.slice aC tC.canon.nodes.length cC, .int .i64 tC.canon.root] rfl rfl sizedg rfl (by simp [Value.oneCell']) ?_)
  clear eC hBC
  refine (var_t w9 v hv6).mono ?_
  rintro e w10 ⟨⟨aX, cX, rfl, tdX, -⟩, hb10⟩
  obtain ⟨w11, bX, eX, hBX, -, hX, BX⟩ := laid w10 #[.slice aX (litT v).canon.nodes.length cX, .int .i64 (litT v).canon.root] 28
  have BB := hb10.trans (BX.mono hb10.size)
  replace HA := Lib.hid (heap_below BB HA.out)
  replace DA := Lib.hid (DA.out.below BB)
  replace HH := Lib.hid (heap_below BB HH.out)
  replace DH := Lib.hid (DH.out.below BB)
  replace HL := Lib.hid (heap_below BB HL.out)
  replace DL := Lib.hid (DL.out.below BB)
  replace HC := Lib.hid (heap_below BB HC.out)
  replace DC := Lib.hid (DC.out.below BB)
  replace BW := Lib.hid (BW.out.trans (BB.mono BW.out.size))
  have HX := Lib.hid hX; have DX := Lib.hid (tdX.below BX)
  clear hb10 hX BX BB tdX
  obtain ⟨p0X, p1X⟩ := box2 HX.out
  obtain ⟨p0H, p1H⟩ := box2 HH.out
  obtain ⟨p0L, p1L⟩ := box2 HL.out
  go_wp2_with (with_reducible refine wpList_store_last rfl 28 (.tmp 14) (.tmp 50) rfl dg0 #[.slice aX (litT v).canon.nodes.length cX, .int .i64 (litT v).canon.root] rfl rfl sizedg rfl (by simp [Value.oneCell']) ?_)
  clear p0X p1X p0H p1H p0L p1L eX hBX
  refine (choose_t DX.out DH.out DL.out (few_of_tree DA.out.ok (back_ev EH.out EL.out) DA.out.len)).mono ?_
  rintro e w12 ⟨hR, hb12⟩
  obtain ⟨aM, cM, rfl, tdM, -⟩ := hR.known DA.out.ok (back_ev EH.out EL.out)
  obtain ⟨w13, bM, eM, hBM, -, hM, BM⟩ := laid w12 #[.slice aM tA.canon.nodes.length cM, .int .i64 tA.canon.root] 28
  have BB := hb12.trans (BM.mono hb12.size)
  replace HA := Lib.hid (heap_below BB HA.out)
  replace DA := Lib.hid (DA.out.below BB)
  replace HH := Lib.hid (heap_below BB HH.out)
  replace DH := Lib.hid (DH.out.below BB)
  replace HL := Lib.hid (heap_below BB HL.out)
  replace DL := Lib.hid (DL.out.below BB)
  replace HC := Lib.hid (heap_below BB HC.out)
  replace DC := Lib.hid (DC.out.below BB)
  replace HX := Lib.hid (heap_below BB HX.out)
  replace DX := Lib.hid (DX.out.below BB)
  replace BW := Lib.hid (BW.out.trans (BB.mono BW.out.size))
  have HM := Lib.hid hM; have DM := Lib.hid (tdM.below BM)
  clear hb12 hM BM BB tdM
  clear hR
  obtain ⟨p0H, p1H⟩ := box2 HH.out
  obtain ⟨p0L, p1L⟩ := box2 HL.out
  go_wp2_with (with_reducible refine wpList_store_last rfl 28 (.tmp 16) (.tmp 57) rfl dg0 #[.slice aM tA.canon.nodes.length cM, .int .i64 tA.canon.root] rfl rfl sizedg rfl (by simp [Value.oneCell']) ?_)
  clear p0H p1H p0L p1L eM hBM
  refine (or_t DH.out DL.out (few_of_tree DC.out.ok (fun x => by rw [EC.out x, EH.out x, EL.out x, Bool.or_comm]) DC.out.len)).mono ?_
  rintro e w14 ⟨hR, hb14⟩
  obtain ⟨aU, cU, rfl, tdU, -⟩ := hR.known DC.out.ok (fun x => by rw [EC.out x, EH.out x, EL.out x, Bool.or_comm])
  obtain ⟨w15, bU, eU, hBU, -, hU, BU⟩ := laid w14 #[.slice aU tC.canon.nodes.length cU, .int .i64 tC.canon.root] 28
  have BB := hb14.trans (BU.mono hb14.size)
  replace HA := Lib.hid (heap_below BB HA.out)
  replace DA := Lib.hid (DA.out.below BB)
  replace HH := Lib.hid (heap_below BB HH.out)
  replace DH := Lib.hid (DH.out.below BB)
  replace HL := Lib.hid (heap_below BB HL.out)
  replace DL := Lib.hid (DL.out.below BB)
  replace HC := Lib.hid (heap_below BB HC.out)
  replace DC := Lib.hid (DC.out.below BB)
  replace HX := Lib.hid (heap_below BB HX.out)
  replace DX := Lib.hid (DX.out.below BB)
  replace HM := Lib.hid (heap_below BB HM.out)
  replace DM := Lib.hid (DM.out.below BB)
  replace BW := Lib.hid (BW.out.trans (BB.mono BW.out.size))
  have HU := Lib.hid hU; have DU := Lib.hid (tdU.below BU)
  clear hb14 hU BU BB tdU
  clear hR
  obtain ⟨p0H, p1H⟩ := box2 HH.out
  go_wp2_with (with_reducible refine wpList_store_last rfl 28 (.tmp 18) (.tmp 63) rfl dg0 #[.slice aU tC.canon.nodes.length cU, .int .i64 tC.canon.root] rfl rfl sizedg rfl (by simp [Value.oneCell']) ?_)
  clear p0H p1H eU hBU
  refine (restrict_t DH.out v hv6 false (few_of_tree DH.out.ok (fun x => by rw [EH.out x, EH.out, upd_upd]) DH.out.len)).mono ?_
  rintro e w16 ⟨hR, hb16⟩
  obtain ⟨aS, cS, rfl, tdS, -⟩ := hR.known DH.out.ok (fun x => by rw [EH.out x, EH.out, upd_upd])
  obtain ⟨w17, bS, eS, hBS, -, hS, BS⟩ := laid w16 #[.slice aS tH.canon.nodes.length cS, .int .i64 tH.canon.root] 28
  have BB := hb16.trans (BS.mono hb16.size)
  replace HA := Lib.hid (heap_below BB HA.out)
  replace DA := Lib.hid (DA.out.below BB)
  replace HH := Lib.hid (heap_below BB HH.out)
  replace DH := Lib.hid (DH.out.below BB)
  replace HL := Lib.hid (heap_below BB HL.out)
  replace DL := Lib.hid (DL.out.below BB)
  replace HC := Lib.hid (heap_below BB HC.out)
  replace DC := Lib.hid (DC.out.below BB)
  replace HX := Lib.hid (heap_below BB HX.out)
  replace DX := Lib.hid (DX.out.below BB)
  replace HM := Lib.hid (heap_below BB HM.out)
  replace DM := Lib.hid (DM.out.below BB)
  replace HU := Lib.hid (heap_below BB HU.out)
  replace DU := Lib.hid (DU.out.below BB)
  replace BW := Lib.hid (BW.out.trans (BB.mono BW.out.size))
  have HS := Lib.hid hS; have DS := Lib.hid (tdS.below BS)
  clear hb16 hS BS BB tdS
  clear hR
  obtain ⟨p0M, p1M⟩ := box2 HM.out
  obtain ⟨p0A, p1A⟩ := box2 HA.out
  go_wp2_with (with_reducible refine wpList_store_last rfl 28 (.tmp 20) (.tmp 69) rfl dg0 #[.slice aS tH.canon.nodes.length cS, .int .i64 tH.canon.root] rfl rfl sizedg rfl (by simp [Value.oneCell']) ?_)
  clear p0M p1M p0A p1A eS hBS
  refine (same_k DM.out DA.out).mono ?_
  rintro e w18 ⟨rfl, hb18⟩
  replace HA := Lib.hid (heap_below hb18 HA.out)
  replace DA := Lib.hid (DA.out.below hb18)
  replace HH := Lib.hid (heap_below hb18 HH.out)
  replace DH := Lib.hid (DH.out.below hb18)
  replace HL := Lib.hid (heap_below hb18 HL.out)
  replace DL := Lib.hid (DL.out.below hb18)
  replace HC := Lib.hid (heap_below hb18 HC.out)
  replace DC := Lib.hid (DC.out.below hb18)
  replace HX := Lib.hid (heap_below hb18 HX.out)
  replace DX := Lib.hid (DX.out.below hb18)
  replace HM := Lib.hid (heap_below hb18 HM.out)
  replace DM := Lib.hid (DM.out.below hb18)
  replace HU := Lib.hid (heap_below hb18 HU.out)
  replace DU := Lib.hid (DU.out.below hb18)
  replace HS := Lib.hid (heap_below hb18 HS.out)
  replace DS := Lib.hid (DS.out.below hb18)
  replace BW := Lib.hid (BW.out.trans (hb18.mono BW.out.size))
  clear hb18
  obtain ⟨p0C, p1C⟩ := box2 HC.out
  obtain ⟨p0U, p1U⟩ := box2 HU.out
  go_wp2_with (fail)
  clear p0C p1C p0U p1U
  refine (same_k DC.out DU.out).mono ?_
  rintro e w19 ⟨rfl, hb19⟩
  replace HA := Lib.hid (heap_below hb19 HA.out)
  replace DA := Lib.hid (DA.out.below hb19)
  replace HH := Lib.hid (heap_below hb19 HH.out)
  replace DH := Lib.hid (DH.out.below hb19)
  replace HL := Lib.hid (heap_below hb19 HL.out)
  replace DL := Lib.hid (DL.out.below hb19)
  replace HC := Lib.hid (heap_below hb19 HC.out)
  replace DC := Lib.hid (DC.out.below hb19)
  replace HX := Lib.hid (heap_below hb19 HX.out)
  replace DX := Lib.hid (DX.out.below hb19)
  replace HM := Lib.hid (heap_below hb19 HM.out)
  replace DM := Lib.hid (DM.out.below hb19)
  replace HU := Lib.hid (heap_below hb19 HU.out)
  replace DU := Lib.hid (DU.out.below hb19)
  replace HS := Lib.hid (heap_below hb19 HS.out)
  replace DS := Lib.hid (DS.out.below hb19)
  replace BW := Lib.hid (BW.out.trans (hb19.mono BW.out.size))
  clear hb19
  obtain ⟨p0S, p1S⟩ := box2 HS.out
  obtain ⟨p0H, p1H⟩ := box2 HH.out
  go_wp2_with (fail)
  clear p0S p1S p0H p1H
  refine (same_k DS.out DH.out).mono ?_
  rintro e w20 ⟨rfl, hb20⟩
  replace HA := Lib.hid (heap_below hb20 HA.out)
  replace DA := Lib.hid (DA.out.below hb20)
  replace HH := Lib.hid (heap_below hb20 HH.out)
  replace DH := Lib.hid (DH.out.below hb20)
  replace HL := Lib.hid (heap_below hb20 HL.out)
  replace DL := Lib.hid (DL.out.below hb20)
  replace HC := Lib.hid (heap_below hb20 HC.out)
  replace DC := Lib.hid (DC.out.below hb20)
  replace HX := Lib.hid (heap_below hb20 HX.out)
  replace DX := Lib.hid (DX.out.below hb20)
  replace HM := Lib.hid (heap_below hb20 HM.out)
  replace DM := Lib.hid (DM.out.below hb20)
  replace HU := Lib.hid (heap_below hb20 HU.out)
  replace DU := Lib.hid (DU.out.below hb20)
  replace HS := Lib.hid (heap_below hb20 HS.out)
  replace DS := Lib.hid (DS.out.below hb20)
  replace BW := Lib.hid (BW.out.trans (hb20.mono BW.out.size))
  clear hb20
  go_wp2_with (fail)
  go_ret
  exact ⟨by rfl, BW.out⟩

end Go.Proofs.Ytohmibmakelclaa

namespace Go.Proofs.Ytohmibmakelclaa
set_option linter.unusedVariables false
set_option linter.unusedSimpArgs false
open Go.RowKit

/-- A set over n conditions looks at no other. -/
theorem T.ev_agree {n : Nat} : ∀ {t : T}, t.bel n → ∀ (x y : Nat → Bool), (∀ i, i < n → x i = y i) → t.ev x = t.ev y
  | .leaf _, _, _, _, _ => rfl
  | .node v l h, hb, x, y, hxy => by
    simp only [T.ev]
    rw [hxy v hb.1, T.ev_agree hb.2.1 x y hxy, T.ev_agree hb.2.2 x y hxy]

/-- Each choice of n conditions is a number's. -/
theorem cfg (n : Nat) (x : Nat → Bool) : ∃ j, j < 2 ^ n ∧ ∀ i, i < n → bits j i = x i := by
  induction n with
  | zero => exact ⟨0, by simp, fun i h => by omega⟩
  | succ n ih =>
    obtain ⟨j, hj, hx⟩ := ih
    cases hn : x n with
    | false =>
      refine ⟨j, Nat.lt_of_lt_of_le hj (Nat.pow_le_pow_right (by omega) (by omega)), fun i hi => ?_⟩
      rcases Nat.lt_or_eq_of_le (Nat.le_of_lt_succ hi) with h | rfl
      · exact hx i h
      · rw [hn]; exact Nat.testBit_lt_two_pow hj
    | true =>
      refine ⟨j ||| 2 ^ n, Nat.or_lt_two_pow (Nat.lt_of_lt_of_le hj (Nat.pow_le_pow_right (by omega) (by omega))) (Nat.pow_lt_pow_right (by omega) (by omega)), fun i hi => ?_⟩
      rw [bits_or]
      unfold upd
      split
      · rename_i h; subst h; exact hn.symm
      · exact hx i (by omega)

/-- The union of those of the first k configurations that lie in a. -/
def Uni (t a : T) (n k : Nat) : Prop := Dep n t.ev ∧ ∀ x, t.ev x = true ↔ ∃ j, j < k ∧ a.ev (bits j) = true ∧ ∀ i, i < n → x i = bits j i
/-- The configurations that agree with k in the first m conditions. -/
def One (t : T) (k m n : Nat) : Prop := Dep n t.ev ∧ ∀ x, t.ev x = true ↔ ∀ i, i < m → x i = bits k i

theorem Uni.zero (a : T) (n : Nat) : Uni (.leaf false) a n 0 := ⟨fun _ _ _ _ => rfl, fun x => by simp [T.ev]⟩
theorem Uni.out {t a : T} {n k : Nat} (h : Uni t a n k) (hk : a.ev (bits k) = false) : Uni t a n (k + 1) := ⟨h.1, fun x => by
  rw [h.2]
  constructor
  · rintro ⟨j, hj, h1⟩; exact ⟨j, by omega, h1⟩
  · rintro ⟨j, hj, h1, h2⟩
    refine ⟨j, ?_, h1, h2⟩
    have : j ≠ k := fun e => by rw [e, hk] at h1; cases h1
    omega⟩
theorem Uni.put {t a u o : T} {n k : Nat} (h : Uni t a n k) (hk : a.ev (bits k) = true) (ho : One o k n n) (hu : ∀ x, u.ev x = (o.ev x || t.ev x)) : Uni u a n (k + 1) := by
  constructor
  · rw [show u.ev = _ from funext hu]; exact ho.1.or h.1
  · intro x
    rw [hu, Bool.or_eq_true, ho.2, h.2]
    constructor
    · rintro (h1 | ⟨j, hj, h1⟩)
      · exact ⟨k, by omega, hk, h1⟩
      · exact ⟨j, by omega, h1⟩
    · rintro ⟨j, hj, h1, h2⟩
      rcases Nat.lt_or_eq_of_le (Nat.le_of_lt_succ hj) with hlt | rfl
      · exact .inr ⟨j, hlt, h1, h2⟩
      · exact .inl h2
theorem Uni.done {t a : T} {n : Nat} (h : Uni t a n (2 ^ n)) (ok : t.Ok) (oka : a.Ok) (hb : a.bel n) : t = a :=
  T.same ok oka (fun x => by
    have h1 := h.2 x
    obtain ⟨j, hj, hx⟩ := cfg n x
    rw [Bool.eq_iff_iff, h1]
    constructor
    · rintro ⟨i, -, hi, hxi⟩; rw [T.ev_agree hb x (bits i) hxi]; exact hi
    · intro ha; exact ⟨j, hj, by rw [T.ev_agree hb (bits j) x hx]; exact ha, fun i hi => (hx i hi).symm⟩)
theorem One.zero (k n : Nat) : One (.leaf true) k 0 n := ⟨fun _ _ _ _ => rfl, fun x => by simp [T.ev]⟩
theorem One.next {o u : T} {k m n : Nat} (h : One o k m n) (hm : m < n) (hu : ∀ x, u.ev x = (o.ev x && (litB m (bits k m)).ev x)) : One u k (m + 1) n := by
  constructor
  · rw [show u.ev = _ from funext hu]
    refine h.1.and ?_
    rw [show (litB m (bits k m)).ev = fun x => (x m == bits k m) from funext (litB_ev m _)]
    intro c i b hi
    simp only [upd]; rw [if_neg (by omega)]
  · intro x
    rw [hu, Bool.and_eq_true, h.2, litB_ev, beq_iff_eq]
    constructor
    · rintro ⟨h1, h2⟩ i hi
      rcases Nat.lt_or_eq_of_le (Nat.le_of_lt_succ hi) with hlt | rfl
      · exact h1 i hlt
      · exact h2
    · intro h1; exact ⟨fun i hi => h1 i (by omega), h1 m (by omega)⟩
theorem One.few {o : T} {k m n : Nat} (h : One o k m n) (hm : m < n) (hn : n ≤ 6) : Few (fun x => o.ev x && (litB m (bits k m)).ev x) := by
  refine few_of_dep ((h.1.and ?_).mono hn)
  rw [show (litB m (bits k m)).ev = fun x => (x m == bits k m) from funext (litB_ev m _)]
  intro c i b hi
  simp only [upd]; rw [if_neg (by omega)]
theorem Uni.few {o t a : T} {k n : Nat} (h : Uni t a n k) (ho : One o k n n) (hn : n ≤ 6) : Few (fun x => o.ev x || t.ev x) := few_of_dep ((ho.1.or h.1).mono hn)
/-- Two sets that hold the same configurations are the same. -/
theorem same_all {s t : T} {n : Nat} (oks : s.Ok) (okt : t.Ok) (hs : s.bel n) (ht : t.bel n) : s = t ↔ ∀ j, j < 2 ^ n → s.ev (bits j) = t.ev (bits j) := by
  constructor
  · rintro rfl _ _; rfl
  · intro h
    refine T.same oks okt (fun x => ?_)
    obtain ⟨j, hj, hx⟩ := cfg n x
    rw [← T.ev_agree hs (bits j) x hx, ← T.ev_agree ht (bits j) x hx]
    exact h j hj

/-- One cell of a box is stored into. -/
theorem put1 {w0 w : World} {b : Nat} {a0 a1 c1 : Value} {t : TypeId} (h : w.heap[b]? = some (.cells #[a0, a1] t (0, 0))) (hs : Below w0.heap.size w0 w) (hb : w0.heap.size ≤ b) :
    ∃ w', w.setCell ⟨b, 1, none⟩ c1 = w' ∧ w'.heap[b]? = some (.cells #[a0, c1] t (0, 0)) ∧ Below w0.heap.size w0 w' ∧ Step (fun k => k = b) w (fun k => k = b) w' := by
  refine ⟨_, rfl, ?_, hs.setCell hb _, (Step.refl (fun k => k = b) w).setCell (.inl rfl) _⟩
  rw [heap_setCell_same _ b 1 _ _ c1 h]; rfl

theorem heap_lt {w : World} {b : Nat} {o : Obj} (h : w.heap[b]? = some o) : b < w.heap.size := by rw [Array.getElem?_eq_some_iff] at h; exact h.1
theorem DgAt.newer {w w' : World} {M M' : Nat → Prop} {v : Value} {D : Dg} (h : DgAt w M v D) (hb : Below w.heap.size w w') (hM : ∀ k, M' k → M k ∨ w.heap.size ≤ k) : DgAt w' M' v D :=
  h.step ((Step.of_below hb M).to (fun _ h => h) hM)

/-- A diagram in a box: the box, and the diagram, apart from M. -/
structure In (w : World) (M : Nat → Prop) (b : Nat) (a : Option Addr) (c : Nat) (t : T) : Prop where
  box : w.heap[b]? = some (.cells #[.slice a t.canon.nodes.length c, .int .i64 t.canon.root] 28 (0, 0))
  at' : DgAt w M (dval a c t) t.canon
  ok : t.Ok
  len : t.canon.nodes.length ≤ 4096
theorem In.td {w : World} {M : Nat → Prop} {b : Nat} {a : Option Addr} {c : Nat} {t : T} (h : In w M b a c t) : TD w (dval a c t) t := ⟨h.at'.wide (fun k hk => hk.elim), h.ok, h.len⟩
theorem In.fresh {w w' : World} {M M' : Nat → Prop} {b : Nat} {a : Option Addr} {c : Nat} {t : T} (h : In w M b a c t) (hb : Below w.heap.size w w') (hM : ∀ k, M' k → M k ∨ w.heap.size ≤ k) : In w' M' b a c t :=
  ⟨heap_below hb h.box, h.at'.newer hb hM, h.ok, h.len⟩
theorem In.below {w w' : World} {M : Nat → Prop} {b : Nat} {a : Option Addr} {c : Nat} {t : T} (h : In w M b a c t) (hb : Below w.heap.size w w') : In w' M b a c t := h.fresh hb (fun k hk => .inl hk)
theorem In.put {w w' : World} {M : Nat → Prop} {b q : Nat} {a : Option Addr} {c : Nat} {t : T} (h : In w M b a c t) (hs : Step (fun k => k = q) w (fun k => k = q) w') (hq : M q) (hb : b ≠ q) : In w' M b a c t :=
  ⟨(hs.block b (heap_lt h.box) hb).trans h.box, h.at'.step (hs.wide (fun k hk => by rw [hk]; exact hq)), h.ok, h.len⟩
theorem In.wide {w : World} {M M' : Nat → Prop} {b : Nat} {a : Option Addr} {c : Nat} {t : T} (h : In w M b a c t) (hM : ∀ k, M' k → M k) : In w M' b a c t := ⟨h.box, h.at'.wide hM, h.ok, h.len⟩

end Go.Proofs.Ytohmibmakelclaa

namespace Go.Proofs.Ytohmibmakelclaa
set_option linter.unusedVariables false
set_option linter.unusedSimpArgs false
open Go.RowKit

theorem bit_of_int (k v : Nat) (hk : k < 64) (hv : v ≤ 5) : ((((k : Int) / 2 ^ v).tmod 2) == 1) = bits k v := by
  have e : ((k : Int) / 2 ^ v) = ((k / 2 ^ v : Nat) : Int) := by push_cast; rfl
  rw [e, Int.tmod_eq_emod_of_nonneg (Int.natCast_nonneg _)]
  unfold bits
  rw [Nat.testBit_eq_decide_div_mod_eq, Bool.eq_iff_iff]
  simp only [beq_iff_eq, decide_eq_true_eq]
  obtain ⟨q, hq⟩ : ∃ q, k / 2 ^ v = q := ⟨_, rfl⟩
  rw [hq]
  omega

theorem eq_next {f g : Nat → Bool} {e : Bool} {k : Nat} (h : e = true ↔ ∀ j, j < k → f j = g j) : (e && (f k == g k)) = true ↔ ∀ j, j < k + 1 → f j = g j := by
  rw [Bool.and_eq_true, h, beq_iff_eq]
  constructor
  · rintro ⟨h1, h2⟩ j hj
    rcases Nat.lt_or_eq_of_le (Nat.le_of_lt_succ hj) with hlt | rfl
    · exact h1 j hlt
    · exact h2
  · intro h1; exact ⟨fun j hj => h1 j (by omega), h1 k (by omega)⟩

set_option maxRecDepth 100000 in
set_option maxHeartbeats 8000000 in
theorem canonicalLaw (w : World) (v u : Value) (xs ys : List Int) (N N1 : Nat) (hs : SetAt w v xs N) (ht : SetAt w u ys N1) :
    Calls Try.prog 3 #[v, u] w fun e w' => e = .returned (.bool true) ∧ Below w.heap.size w w' := by
  obtain ⟨a, c, rfl⟩ := hs.shape
  obtain ⟨a1, c1, rfl⟩ := ht.shape
  have hN : N < 256 := hs.choose_spec.2.2
  have hn6 : N % 7 ≤ 6 := by omega
  obtain ⟨w0, bs, e0, hb0, z0, h0, B0⟩ := laid w #[.slice a xs.length c, .int .u8 (N : Int)] 24
  obtain ⟨w1, bt, e1, hb1, z1, h1, B1⟩ := laid w0 #[.slice a1 ys.length c1, .int .u8 (N1 : Int)] 24
  obtain rfl : bt = bs + 1 := by omega
  replace z1 : w1.heap.size = bs + 2 := by omega
  clear hb1
  have BW : Hid (Below w.heap.size w w1) := B0.trans (B1.mono B0.size)
  have K : Hid (w1.heap[bs]? = some (.cells #[.slice a xs.length c, .int .u8 (N : Int)] 24 (0, 0))) := heap_below B1 h0
  have KT : Hid (w1.heap[bs + 1]? = some (.cells #[.slice a1 ys.length c1, .int .u8 (N1 : Int)] 24 (0, 0))) := h1
  have HS : Hid (SetAt w (.agg #[.slice a xs.length c, .int .u8 (N : Int)]) xs N) := hs
  have HT : Hid (SetAt w (.agg #[.slice a1 ys.length c1, .int .u8 (N : Int)]) ys N) := ⟨_, rfl, ht.bytes, hN⟩
  have HB0 := Lib.hid hb0
  have HN6 := Lib.hid hn6; have HNN := Lib.hid hN
  clear h0 h1 B0 B1 hs ht hN
  go_enter Try.func3, Try.ntmps3
  go_wp2_with (fail)
  refine (sanity_any w1).mono ?_
  rintro e w2 ⟨rfl, hb2⟩
  replace BW := Lib.hid (BW.out.trans (hb2.mono BW.out.size))
  replace K := Lib.hid (heap_below hb2 K.out)
  replace KT := Lib.hid (heap_below hb2 KT.out)
  clear hb2
  obtain ⟨k0, k1⟩ := box2v K.out
  obtain ⟨l0, l1⟩ := box2v KT.out
  have lf := frozen_box KT.out
  obtain ⟨wS, eS, PS, QS, SS⟩ := put1 (w0 := w) (c1 := .int .u8 (N : Int)) KT.out BW.out (by have := HB0.out; omega)
  replace K : Hid (wS.heap[bs]? = some (.cells #[.slice a xs.length c, .int .u8 (N : Int)] 24 (0, 0))) := (SS.block bs (heap_lt K.out) (by omega)).trans K.out
  replace KT := Lib.hid PS
  replace BW := Lib.hid QS
  obtain ⟨k0', k1'⟩ := box2v K.out
  clear PS QS SS
  go_wp2_with (fail)
  refine (lmade_any wS _ xs N (HS.out.below BW.out)).mono ?_
  rintro e w3 ⟨hR, hb3⟩
  clear k0 k1 l0 l1 lf eS k0' k1'
  obtain ⟨aA, cA, tA, rfl, tdA, blA⟩ := hR.td (by omega)
  have BLA := Lib.hid blA
  clear blA hR
  obtain ⟨w4, bA, eA, hBA, -, hA, BA⟩ := laid w3 #[.slice aA tA.canon.nodes.length cA, .int .i64 tA.canon.root] 28
  have BB := hb3.trans (BA.mono hb3.size)
  replace BW := Lib.hid (BW.out.trans (BB.mono BW.out.size))
  replace K := Lib.hid (heap_below BB K.out)
  replace KT := Lib.hid (heap_below BB KT.out)
  have HA := Lib.hid hA; have DA := Lib.hid (tdA.below BA)
  clear hb3 hA BA BB tdA
  obtain ⟨k0, k1⟩ := box2v KT.out
  go_wp2_with (with_reducible refine wpList_store_last rfl 28 (.tmp 6) (.tmp 18) rfl dg0 #[.slice aA tA.canon.nodes.length cA, .int .i64 tA.canon.root] rfl rfl sizedg rfl (by simp [Value.oneCell']) ?_)
  clear eA hBA
  refine (lmade_any w4 _ ys N (HT.out.below BW.out)).mono ?_
  rintro e w5 ⟨hR, hb5⟩
  clear k0 k1
  obtain ⟨aG, cG, tG, rfl, tdG, blG⟩ := hR.td (by omega)
  have BLB := Lib.hid blG
  clear blG hR
  obtain ⟨w6, bG, eG, hBG, -, hG, BG⟩ := laid w5 #[.slice aG tG.canon.nodes.length cG, .int .i64 tG.canon.root] 28
  have BB := hb5.trans (BG.mono hb5.size)
  replace HA := Lib.hid (heap_below BB HA.out)
  replace DA := Lib.hid (DA.out.below BB)
  replace BW := Lib.hid (BW.out.trans (BB.mono BW.out.size))
  replace K := Lib.hid (heap_below BB K.out)
  replace KT := Lib.hid (heap_below BB KT.out)
  have HG := Lib.hid hG; have DG := Lib.hid (tdG.below BG)
  clear hb5 hG BG BB tdG
  go_wp2_with (with_reducible refine wpList_store_last rfl 28 (.tmp 7) (.tmp 20) rfl dg0 #[.slice aG tG.canon.nodes.length cG, .int .i64 tG.canon.root] rfl rfl sizedg rfl (by simp [Value.oneCell']) ?_)
  clear eG hBG
  refine (constant_any w6 false).mono ?_
  rintro e w7 ⟨rv, rfl, hM, hb7⟩
  obtain ⟨aC, cC, rfl⟩ := (hM NoB).shape
  obtain ⟨w9, bC, eC, hBC, zC, hC, BC⟩ := laid w7 #[.slice aC (T.leaf false).canon.nodes.length cC, .int .i64 (T.leaf false).canon.root] 28
  have BB := hb7.trans (BC.mono hb7.size)
  have NAC : Hid (bs ≠ bC ∧ bA ≠ bC ∧ bG ≠ bC ∧ w.heap.size ≤ bC) := by
    have h1 := heap_lt HA.out; have h2 := heap_lt HG.out; have h3 := hb7.size; have h4 := heap_lt K.out; have h5 := HB0.out
    show _ ∧ _ ∧ _ ∧ _
    omega
  have IA : Hid (In w9 (fun k => k = bC) bA aA cA tA) := (In.mk HA.out DA.out.at' DA.out.ok DA.out.len : In w6 NoB bA aA cA tA).fresh BB (fun k hk => .inr (by have := hb7.size; omega))
  have IB : Hid (In w9 (fun k => k = bC) bG aG cG tG) := (In.mk HG.out DG.out.at' DG.out.ok DG.out.len : In w6 NoB bG aG cG tG).fresh BB (fun k hk => .inr (by have := hb7.size; omega))
  have IC : Hid (In w9 (fun k => k = bC) bC aC cC (.leaf false)) := ⟨hC, (hM _).below BC, trivial, by rw [canon_leaf]; simp⟩
  replace K := Lib.hid (heap_below BB K.out)
  replace BW := Lib.hid (BW.out.trans (BB.mono BW.out.size))
  have OKA := Lib.hid DA.out.ok; have OKB := Lib.hid DG.out.ok
  obtain ⟨n, hn⟩ : ∃ n, N % 7 = n := ⟨_, rfl⟩
  obtain ⟨P, hP⟩ : ∃ P, 2 ^ n = P := ⟨_, rfl⟩
  have hn6 : n ≤ 6 := by have := HN6.out; omega
  have hP64 : P ≤ 64 := by rw [← hP]; exact Nat.pow_le_pow_right (by omega) hn6
  have hsh := shl_one n hn6
  rw [hP] at hsh
  have hnI : (n : Int) ≤ 6 := by omega
  have hnI0 : (0 : Int) ≤ n := by omega
  have hPI : (P : Int) ≤ 64 := by omega
  have hPI0 : (0 : Int) ≤ P := by omega
  have SZ : Hid (∀ (w : World), Calls Try.prog 18 #[.agg #[.slice a xs.length c, .int .u8 (N : Int)]] w fun e w' => e = .returned (.int .i64 (n : Int)) ∧ Below w.heap.size w w') := by
    intro w; rw [← hn]; exact size_any w _ a xs.length c rfl N HNN.out
  rw [hn] at BLA BLB
  have HP := Lib.hid hP
  obtain ⟨pc0, pc1⟩ := box2 hC
  clear hM hC BC BB HA HG DA DG hb7 hn hP
  go_wp2_with (with_reducible refine wpList_store_last rfl 28 (.tmp 8) (.tmp 21) rfl dg0 #[.slice aC (T.leaf false).canon.nodes.length cC, .int .i64 (T.leaf false).canon.root] rfl rfl sizedg rfl (by simp [Value.oneCell']) ?_)
  clear pc0 pc1 eC hBC zC
  go_loopw [9, 10] (fun eq i wr => ∃ (k : Nat) (e : Bool) (aC : Option Addr) (cC : Nat) (tC : T), k ≤ P ∧ eq = .bool e ∧ i = .int .i64 k ∧ Hid (wr.heap[bs]? = some (.cells #[.slice a xs.length c, .int .u8 (N : Int)] 24 (0, 0))) ∧ Hid (In wr (fun q => q = bC) bA aA cA tA) ∧ Hid (In wr (fun q => q = bC) bG aG cG tG) ∧ Hid (In wr (fun q => q = bC) bC aC cC tC) ∧ Hid (Uni tC tA n k) ∧ Hid (e = true ↔ ∀ j, j < k → tA.ev (bits j) = tG.ev (bits j)) ∧ Hid (Below w.heap.size w wr)) (fun _ i _ => P - (intOf i).toNat)
  case atStart => exact ⟨0, true, aC, cC, .leaf false, Nat.zero_le _, rfl, rfl, K, IA, IB, IC, Uni.zero tA n, ⟨fun _ j hj => by omega, fun _ => rfl⟩, BW⟩
  case round =>
    clear IA IB IC K BW
    obtain ⟨k, e, aC, cC, tC, hk, rfl, rfl, RK, RA, RB, RC, RU, RE, RW⟩ := hrel
    have hk0 : (0 : Int) ≤ (k : Int) := by omega
    have hk64 : (k : Int) ≤ 64 := by omega
    obtain ⟨k0, k1⟩ := box2v RK.out
    go_wp2_with (fail)
    refine (SZ.out _).mono ?_
    rintro e1 u1 ⟨rfl, hb1⟩
    replace RK := Lib.hid (heap_below hb1 RK.out)
    replace RA := Lib.hid (RA.out.below hb1); replace RB := Lib.hid (RB.out.below hb1); replace RC := Lib.hid (RC.out.below hb1)
    replace RW := Lib.hid (RW.out.trans (hb1.mono RW.out.size))
    clear hb1 k0 k1
    by_cases hlt : k < P
    · have hltI : (k : Int) < (P : Int) := by omega
      go_wp2_with (fail)
      refine (constant_any _ true).mono ?_
      rintro e1 u2 ⟨rv, rfl, hM, hb2⟩
      obtain ⟨aO, cO, rfl⟩ := (hM NoB).shape
      obtain ⟨u3, bO, eO, hBO, zO, hO, BO⟩ := laid u2 #[.slice aO (T.leaf true).canon.nodes.length cO, .int .i64 (T.leaf true).canon.root] 28
      have BB := hb2.trans (BO.mono hb2.size)
      have NAO : Hid (bs ≠ bO ∧ bA ≠ bO ∧ bG ≠ bO ∧ bC ≠ bO ∧ w.heap.size ≤ bO) := by
        have h1 := heap_lt RA.out.box; have h2 := heap_lt RB.out.box; have h3 := hb2.size; have h4 := heap_lt RK.out; have h5 := heap_lt RC.out.box; have h6 := NAC.out
        show _ ∧ _ ∧ _ ∧ _ ∧ _
        omega
      have hf : ∀ q, (q = bC ∨ q = bO) → q = bC ∨ u1.heap.size ≤ q := fun q hq => hq.elim .inl (fun h => .inr (by have := hb2.size; omega))
      replace RA := Lib.hid (RA.out.fresh BB hf); replace RB := Lib.hid (RB.out.fresh BB hf); replace RC := Lib.hid (RC.out.fresh BB hf)
      have RO : Hid (In u3 (fun q => q = bC ∨ q = bO) bO aO cO (.leaf true)) := ⟨hO, (hM _).below BO, trivial, by rw [canon_leaf]; simp⟩
      replace RK := Lib.hid (heap_below BB RK.out)
      replace RW := Lib.hid (RW.out.trans (BB.mono RW.out.size))
      obtain ⟨po0, po1⟩ := box2 hO
      clear hM hO BO BB hf hb2
      go_wp2_with (with_reducible refine wpList_store_last rfl 28 (.tmp 11) (.tmp 30) rfl dg0 #[.slice aO (T.leaf true).canon.nodes.length cO, .int .i64 (T.leaf true).canon.root] rfl rfl sizedg rfl (by simp [Value.oneCell']) ?_)
      clear po0 po1 eO hBO zO
      go_loopw [12] (fun i wr => ∃ (m : Nat) (aO : Option Addr) (cO : Nat) (tO : T), m ≤ n ∧ i = .int .i64 m ∧ Hid (wr.heap[bs]? = some (.cells #[.slice a xs.length c, .int .u8 (N : Int)] 24 (0, 0))) ∧ Hid (In wr (fun q => q = bC ∨ q = bO) bA aA cA tA) ∧ Hid (In wr (fun q => q = bC ∨ q = bO) bG aG cG tG) ∧ Hid (In wr (fun q => q = bC ∨ q = bO) bC aC cC tC) ∧ Hid (In wr (fun q => q = bC ∨ q = bO) bO aO cO tO) ∧ Hid (One tO k m n) ∧ Hid (Below w.heap.size w wr)) (fun i _ => n - (intOf i).toNat)
      case atStart => exact ⟨0, aO, cO, .leaf true, Nat.zero_le _, rfl, RK, RA, RB, RC, RO, One.zero k n, RW⟩
      case round =>
        clear RK RA RB RC RO RW
        obtain ⟨m, aO, cO, tO, hm, rfl, RK, RA, RB, RC, RO, R1, RW⟩ := hrel
        have hm0 : (0 : Int) ≤ (m : Int) := by omega
        have hm6 : (m : Int) ≤ 6 := by omega
        obtain ⟨k0, k1⟩ := box2v RK.out
        go_wp2_with (fail)
        refine (SZ.out _).mono ?_
        rintro e1 u4 ⟨rfl, hb1⟩
        replace RK := Lib.hid (heap_below hb1 RK.out)
        replace RA := Lib.hid (RA.out.below hb1); replace RB := Lib.hid (RB.out.below hb1); replace RC := Lib.hid (RC.out.below hb1); replace RO := Lib.hid (RO.out.below hb1)
        replace RW := Lib.hid (RW.out.trans (hb1.mono RW.out.size))
        clear hb1 k0 k1
        by_cases hml : m < n
        · have hmlI : (m : Int) < (n : Int) := by omega
          go_wp2_with (fail)
          obtain ⟨q0, q1⟩ := box2 RO.out.box
          have BIT := bit_of_int k m (by omega) (by omega)
          obtain ⟨bb, hbb⟩ : ∃ bb, bits k m = bb := ⟨_, rfl⟩
          rw [hbb] at BIT
          have RKd : Hid (u4.drew.heap[bs]? = some (.cells #[.slice a xs.length c, .int .u8 (N : Int)] 24 (0, 0))) := RK.out
          have BD : Below u4.heap.size u4 u4.drew := (Below.refl _ u4).drew
          replace RA := Lib.hid (RA.out.below BD); replace RB := Lib.hid (RB.out.below BD); replace RC := Lib.hid (RC.out.below BD); replace RO := Lib.hid (RO.out.below BD)
          replace RW := Lib.hid (RW.out.drew)
          have QD : Hid (u4.drew.cell? ⟨bO, 0, none⟩ = some (.slice aO tO.canon.nodes.length cO) ∧ u4.drew.cell? ⟨bO, 1, none⟩ = some (.int .i64 tO.canon.root)) := ⟨q0, q1⟩
          clear BD q0 q1 RK
          refine wp_region_held_drew (S := fun w' => True) (by kernel_rfl) (trivial) (fun hS => ?_)
          refine wpAnyH_take (i := 1) (v := .int .i64 (m : Int)) rfl (by kernel_rfl) (by kernel_rfl) (by kernel_rfl) (fun _ _ _ h => h) (Or.inl ⟨by rfl, ?_⟩) hS ?_
          · intro w hSw
            go_simp
          try simp only [Act.put, List.getElem_toArray, List.getElem_cons_zero, List.getElem_cons_succ, List.setIfInBounds_toArray, List.set_cons_zero, List.set_cons_succ]
          refine wpAnyH_take (i := 2) (v := .int .i64 (k : Int)) rfl (by kernel_rfl) (by kernel_rfl) (by kernel_rfl) (fun _ _ _ h => h) (Or.inl ⟨by rfl, ?_⟩) hS ?_
          · intro w hSw
            go_simp
          try simp only [Act.put, List.getElem_toArray, List.getElem_cons_zero, List.getElem_cons_succ, List.setIfInBounds_toArray, List.set_cons_zero, List.set_cons_succ]
          refine wpAnyH_take (i := 3) (v := .int .i64 (m : Int)) rfl (by kernel_rfl) (by kernel_rfl) (by kernel_rfl) (fun _ _ _ h => h) (Or.inl ⟨by rfl, ?_⟩) hS ?_
          · intro w hSw
            go_simp
          try simp only [Act.put, List.getElem_toArray, List.getElem_cons_zero, List.getElem_cons_succ, List.setIfInBounds_toArray, List.set_cons_zero, List.set_cons_succ]
          refine wpAnyH_take (i := 4) (v := .int .u64 (m : Int)) rfl (by kernel_rfl) (by kernel_rfl) (by kernel_rfl) (fun _ _ _ h => h) (Or.inl ⟨by rfl, ?_⟩) hS ?_
          · intro w hSw
            go_simp
            exact IntWalk.u64_in _ ⟨by omega, by omega⟩
          try simp only [Act.put, List.getElem_toArray, List.getElem_cons_zero, List.getElem_cons_succ, List.setIfInBounds_toArray, List.set_cons_zero, List.set_cons_succ]
          refine wpAnyH_take (i := 5) (v := .int .i64 ((k : Int) / 2 ^ m)) rfl (by kernel_rfl) (by kernel_rfl) (by kernel_rfl) (fun _ _ _ h => h) (Or.inl ⟨by rfl, ?_⟩) hS ?_
          · intro w hSw
            go_simp
          try simp only [Act.put, List.getElem_toArray, List.getElem_cons_zero, List.getElem_cons_succ, List.setIfInBounds_toArray, List.set_cons_zero, List.set_cons_succ]
          refine wpAnyH_take (i := 6) (v := .int .i64 (((k : Int) / 2 ^ m).tmod 2)) rfl (by kernel_rfl) (by kernel_rfl) (by kernel_rfl) (fun _ _ _ h => h) (Or.inl ⟨by rfl, ?_⟩) hS ?_
          · intro w hSw
            go_simp
          try simp only [Act.put, List.getElem_toArray, List.getElem_cons_zero, List.getElem_cons_succ, List.setIfInBounds_toArray, List.set_cons_zero, List.set_cons_succ]
          refine wpAnyH_take (i := 7) (v := .bool bb) rfl (by kernel_rfl) (by kernel_rfl) (by kernel_rfl) (fun _ _ _ h => h) (Or.inl ⟨by rfl, ?_⟩) hS ?_
          · intro w hSw
            go_simp
          try simp only [Act.put, List.getElem_toArray, List.getElem_cons_zero, List.getElem_cons_succ, List.setIfInBounds_toArray, List.set_cons_zero, List.set_cons_succ]
          refine wpAnyH_ready (rs := [0, 8]) (by kernel_rfl) (by simp) ?_
          refine AllReadyH.cons rfl (fun K hK => ?_) (AllReadyH.cons rfl (fun K hK => ?_) AllReadyH.nil)
          focus
            obtain ⟨q0, q1⟩ := QD.out
            try simp only [Act.put, List.getElem_toArray, List.getElem_cons_zero, List.getElem_cons_succ, List.setIfInBounds_toArray, List.set_cons_zero, List.set_cons_succ]
            go_simp
            refine hK.out _ _ (trivial) (fun hS => ?_)
            clear hK K
            try simp only [Act.put, List.getElem_toArray, List.getElem_cons_zero, List.getElem_cons_succ, List.setIfInBounds_toArray, List.set_cons_zero, List.set_cons_succ]
            clear q0 q1
            refine wpAnyH_ready (rs := [8]) (by kernel_rfl) (by simp) ?_
            refine AllReadyH.cons rfl (fun K hK => ?_) AllReadyH.nil
            try simp only [Act.put, List.getElem_toArray, List.getElem_cons_zero, List.getElem_cons_succ, List.setIfInBounds_toArray, List.set_cons_zero, List.set_cons_succ]
            go_simp
            refine (literal_t _ m (by omega) bb).mono ?_
            rintro e1 u5 ⟨⟨aL, cL, rfl, tdL⟩, hb5⟩
            replace RK := Lib.hid (heap_below hb5 RKd.out)
            replace RA := Lib.hid (RA.out.below hb5); replace RB := Lib.hid (RB.out.below hb5); replace RC := Lib.hid (RC.out.below hb5); replace RO := Lib.hid (RO.out.below hb5)
            replace RW := Lib.hid (RW.out.trans (hb5.mono RW.out.size))
            have TL := Lib.hid tdL
            clear hb5 tdL RKd QD
            refine hK.out _ _ (trivial) (fun hS => ?_)
            clear hK K
            try simp only [Act.put, List.getElem_toArray, List.getElem_cons_zero, List.getElem_cons_succ, List.setIfInBounds_toArray, List.set_cons_zero, List.set_cons_succ]
          rotate_left
          focus
            try simp only [Act.put, List.getElem_toArray, List.getElem_cons_zero, List.getElem_cons_succ, List.setIfInBounds_toArray, List.set_cons_zero, List.set_cons_succ]
            go_simp
            refine (literal_t _ m (by omega) bb).mono ?_
            rintro e1 u5 ⟨⟨aL, cL, rfl, tdL⟩, hb5⟩
            replace RK := Lib.hid (heap_below hb5 RKd.out)
            replace RA := Lib.hid (RA.out.below hb5); replace RB := Lib.hid (RB.out.below hb5); replace RC := Lib.hid (RC.out.below hb5); replace RO := Lib.hid (RO.out.below hb5)
            replace RW := Lib.hid (RW.out.trans (hb5.mono RW.out.size))
            have TL := Lib.hid tdL
            clear hb5 tdL RKd QD
            refine hK.out _ _ (trivial) (fun hS => ?_)
            clear hK K
            try simp only [Act.put, List.getElem_toArray, List.getElem_cons_zero, List.getElem_cons_succ, List.setIfInBounds_toArray, List.set_cons_zero, List.set_cons_succ]
            refine wpAnyH_ready (rs := [0]) (by kernel_rfl) (by simp) ?_
            refine AllReadyH.cons rfl (fun K hK => ?_) AllReadyH.nil
            try simp only [Act.put, List.getElem_toArray, List.getElem_cons_zero, List.getElem_cons_succ, List.setIfInBounds_toArray, List.set_cons_zero, List.set_cons_succ]
            obtain ⟨q0, q1⟩ := box2 RO.out.box
            go_simp
            refine hK.out _ _ (trivial) (fun hS => ?_)
            clear hK K
            try simp only [Act.put, List.getElem_toArray, List.getElem_cons_zero, List.getElem_cons_succ, List.setIfInBounds_toArray, List.set_cons_zero, List.set_cons_succ]
            clear q0 q1
          all_goals
            clear hS
            have hS : True := trivial
            refine wpAnyH_ready (rs := [9]) (by kernel_rfl) (by simp) ?_
            refine AllReadyH.cons rfl (fun K hK => ?_) AllReadyH.nil
            try simp only [Act.put, List.getElem_toArray, List.getElem_cons_zero, List.getElem_cons_succ, List.setIfInBounds_toArray, List.set_cons_zero, List.set_cons_succ]
            go_simp
            refine (and_t RO.out.td TL.out (by rw [← hbb]; exact R1.out.few hml hn6)).mono ?_
            rintro e1 u6 ⟨hR, hb6⟩
            obtain ⟨aQ, cQ, tQ, rfl, evQ, tdQ, hMQ⟩ := hR
            have hMb : ∀ q, (q = bC ∨ q = bO) → q < u5.heap.size := fun q hq => by have h1 := heap_lt RC.out.box; have h2 := heap_lt RO.out.box; omega
            have DQ := Lib.hid (hMQ _ hMb)
            have OKQ := Lib.hid tdQ.ok; have LNQ := Lib.hid tdQ.len
            have R1' : Hid (One tQ k (m + 1) n) := R1.out.next hml (fun x => by rw [evQ x, hbb])
            replace RK := Lib.hid (heap_below hb6 RK.out)
            replace RA := Lib.hid (RA.out.below hb6); replace RB := Lib.hid (RB.out.below hb6); replace RC := Lib.hid (RC.out.below hb6); replace RO := Lib.hid (RO.out.below hb6)
            replace RW := Lib.hid (RW.out.trans (hb6.mono RW.out.size))
            clear hb6 hMb evQ tdQ hMQ TL
            refine hK.out _ _ (trivial) (fun hS => ?_)
            clear hK K
            try simp only [Act.put, List.getElem_toArray, List.getElem_cons_zero, List.getElem_cons_succ, List.setIfInBounds_toArray, List.set_cons_zero, List.set_cons_succ]
            refine wpAnyH_take (i := 10) (v := .tuple #[dval aQ cQ tQ, .int .i64 0]) rfl (by kernel_rfl) (by kernel_rfl) (by kernel_rfl) (fun _ _ _ h => h) (Or.inl ⟨by rfl, ?_⟩) hS ?_
            · intro w hSw
              go_simp
            try simp only [Act.put, List.getElem_toArray, List.getElem_cons_zero, List.getElem_cons_succ, List.setIfInBounds_toArray, List.set_cons_zero, List.set_cons_succ]
            refine wpAnyH_take (i := 11) (v := (dval aQ cQ tQ)) rfl (by kernel_rfl) (by kernel_rfl) (by kernel_rfl) (fun _ _ _ h => h) (Or.inl ⟨by rfl, ?_⟩) hS ?_
            · intro w hSw
              go_simp
            try simp only [Act.put, List.getElem_toArray, List.getElem_cons_zero, List.getElem_cons_succ, List.setIfInBounds_toArray, List.set_cons_zero, List.set_cons_succ]
            refine wpAnyH_take (i := 12) (v := .int .i64 0) rfl (by kernel_rfl) (by kernel_rfl) (by kernel_rfl) (fun _ _ _ h => h) (Or.inl ⟨by rfl, ?_⟩) hS ?_
            · intro w hSw
              go_simp
            try simp only [Act.put, List.getElem_toArray, List.getElem_cons_zero, List.getElem_cons_succ, List.setIfInBounds_toArray, List.set_cons_zero, List.set_cons_succ]
            obtain ⟨s0, s1⟩ := box2 RO.out.box
            have sf := frozen_box RO.out.box
            obtain ⟨u8, e8, P8, Q8, S8⟩ := put2 (w0 := w) (c0 := .slice aQ tQ.canon.nodes.length cQ) (c1 := .int .i64 tQ.canon.root) RO.out.box RW.out NAO.out.2.2.2.2
            have hNO := NAO.out
            replace RK : Hid (u8.heap[bs]? = some (.cells #[.slice a xs.length c, .int .u8 (N : Int)] 24 (0, 0))) := (S8.block bs (heap_lt RK.out) hNO.1).trans RK.out
            replace RA := Lib.hid (RA.out.put S8 (.inr rfl) hNO.2.1); replace RB := Lib.hid (RB.out.put S8 (.inr rfl) hNO.2.2.1); replace RC := Lib.hid (RC.out.put S8 (.inr rfl) hNO.2.2.2.1)
            replace RO : Hid (In u8 (fun q => q = bC ∨ q = bO) bO aQ cQ tQ) := ⟨P8, DQ.out.step (S8.wide (fun q hq => .inr hq)), OKQ.out, LNQ.out⟩
            replace RW := Lib.hid Q8
            clear P8 Q8 S8 hNO
            refine wpAnyH_ready (rs := [13]) (by kernel_rfl) (by simp) ?_
            refine AllReadyH.cons rfl (fun K hK => ?_) AllReadyH.nil
            try simp only [Act.put, List.getElem_toArray, List.getElem_cons_zero, List.getElem_cons_succ, List.setIfInBounds_toArray, List.set_cons_zero, List.set_cons_succ]
            go_simp
            refine hK.out _ _ (trivial) (fun hS => ?_)
            clear hK K
            try simp only [Act.put, List.getElem_toArray, List.getElem_cons_zero, List.getElem_cons_succ, List.setIfInBounds_toArray, List.set_cons_zero, List.set_cons_succ]
            refine wpAnyH_done (by kernel_rfl) ?_ _
            try simp only [Act.put, List.getElem_toArray, List.getElem_cons_zero, List.getElem_cons_succ, List.setIfInBounds_toArray, List.set_cons_zero, List.set_cons_succ]
            clear hS s0 s1 sf e8
            go_wp2_with (fail)
            go_roundw
            case rel => exact ⟨m + 1, aQ, cQ, tQ, by omega, by go_num, RK, RA, RB, RC, RO, R1', RW⟩
            case measure => simp [intOf]; omega
        · obtain rfl : n = m := by omega
          obtain ⟨q0, q1⟩ := box2 RA.out.box
          obtain ⟨ea, hea⟩ : ∃ ea, tA.ev (bits k) = ea := ⟨_, rfl⟩
          have HH := Lib.hid (holds_k RA.out.td k (by omega) ea hea)
          have HEA := Lib.hid hea
          clear hea
          go_wp2_with (fail)
          refine HH.out.mono ?_
          rintro e1 u5 ⟨rfl, hb1⟩
          replace RK := Lib.hid (heap_below hb1 RK.out)
          replace RA := Lib.hid (RA.out.below hb1); replace RB := Lib.hid (RB.out.below hb1); replace RC := Lib.hid (RC.out.below hb1); replace RO := Lib.hid (RO.out.below hb1)
          replace RW := Lib.hid (RW.out.trans (hb1.mono RW.out.size))
          clear hb1 q0 q1 HH
          cases ea
          focus
            go_wp2_with (fail)
            obtain ⟨ux, hux⟩ : ∃ ux, u5 = ux := ⟨_, rfl⟩
            subst hux
            have FU : Hid (Uni tC tA n (k + 1)) := RU.out.out HEA.out
            have FA := Lib.hid (RA.out.wide (M' := fun q => q = bC) (fun q hq => .inl hq)); have FB := Lib.hid (RB.out.wide (M' := fun q => q = bC) (fun q hq => .inl hq)); have FC := Lib.hid (RC.out.wide (M' := fun q => q = bC) (fun q hq => .inl hq))
            clear RA RB RC
          rotate_left
          focus
            obtain ⟨q0, q1⟩ := box2 RO.out.box
            obtain ⟨r0, r1⟩ := box2 RC.out.box
            go_wp2_with (fail)
            refine (or_t RO.out.td RC.out.td (RU.out.few R1.out hn6)).mono ?_
            rintro e1 u6 ⟨hR, hb6⟩
            obtain ⟨aQ, cQ, tQ, rfl, evQ, tdQ, hMQ⟩ := hR
            have hMb : ∀ q, (q = bC) → q < u5.heap.size := fun q hq => by have h1 := heap_lt RC.out.box; omega
            have DQ := Lib.hid (hMQ _ hMb)
            have OKQ := Lib.hid tdQ.ok; have LNQ := Lib.hid tdQ.len
            have FU : Hid (Uni tQ tA n (k + 1)) := RU.out.put HEA.out R1.out evQ
            replace RK := Lib.hid (heap_below hb6 RK.out)
            replace RA := Lib.hid (RA.out.below hb6); replace RB := Lib.hid (RB.out.below hb6); replace RC := Lib.hid (RC.out.below hb6); replace RO := Lib.hid (RO.out.below hb6)
            replace RW := Lib.hid (RW.out.trans (hb6.mono RW.out.size))
            clear hb6 hMb evQ tdQ hMQ q0 q1 r0 r1
            obtain ⟨s0, s1⟩ := box2 RC.out.box
            have sf := frozen_box RC.out.box
            obtain ⟨u7, e8, P8, Q8, S8⟩ := put2 (w0 := w) (c0 := .slice aQ tQ.canon.nodes.length cQ) (c1 := .int .i64 tQ.canon.root) RC.out.box RW.out NAC.out.2.2.2
            have hNC := NAC.out
            replace RK : Hid (u7.heap[bs]? = some (.cells #[.slice a xs.length c, .int .u8 (N : Int)] 24 (0, 0))) := (S8.block bs (heap_lt RK.out) hNC.1).trans RK.out
            have FA := Lib.hid ((RA.out.wide (M' := fun q => q = bC) (fun q hq => .inl hq)).put S8 rfl hNC.2.1); have FB := Lib.hid ((RB.out.wide (M' := fun q => q = bC) (fun q hq => .inl hq)).put S8 rfl hNC.2.2.1)
            have FC : Hid (In u7 (fun q => q = bC) bC aQ cQ tQ) := ⟨P8, DQ.out.step S8, OKQ.out, LNQ.out⟩
            replace RW := Lib.hid Q8
            clear P8 Q8 S8 hNC RA RB RC RU DQ OKQ LNQ
            go_wp2_with (fail)
            clear s0 s1 sf e8
          rotate_left
          focus
            cases e
            · replace RK : Hid (u5.drew.heap[bs]? = some (.cells #[.slice a xs.length c, .int .u8 (N : Int)] 24 (0, 0))) := RK.out
              have BD : Below u5.heap.size u5 u5.drew := (Below.refl _ u5).drew
              replace FA := Lib.hid (FA.out.below BD); replace FB := Lib.hid (FB.out.below BD); replace FC := Lib.hid (FC.out.below BD)
              replace RW := Lib.hid (RW.out.drew)
              clear BD
              refine wp_region_held_drew (S := fun w' => w'.cell? ⟨bA, 0, none⟩ = some (.slice aA tA.canon.nodes.length cA) ∧ w'.cell? ⟨bA, 1, none⟩ = some (.int .i64 tA.canon.root) ∧ w'.cell? ⟨bG, 0, none⟩ = some (.slice aG tG.canon.nodes.length cG) ∧ w'.cell? ⟨bG, 1, none⟩ = some (.int .i64 tG.canon.root)) (by kernel_rfl) (⟨(box2 FA.out.box).1, (box2 FA.out.box).2, (box2 FB.out.box).1, (box2 FB.out.box).2⟩) (fun hS => ?_)
              refine wpAnyH_take (i := 0) (v := .bool false) rfl (by kernel_rfl) (by kernel_rfl) (by kernel_rfl) (fun _ _ _ h => h) (Or.inl ⟨by rfl, ?_⟩) hS ?_
              · intro w hSw
                go_split_ands
                go_simp
              try simp only [Act.put, List.getElem_toArray, List.getElem_cons_zero, List.getElem_cons_succ, List.setIfInBounds_toArray, List.set_cons_zero, List.set_cons_succ]
              refine wpAnyH_take (i := 1) (v := .bool false) rfl (by kernel_rfl) (by kernel_rfl) (by kernel_rfl) (fun _ _ _ h => h) (Or.inl ⟨by rfl, ?_⟩) hS ?_
              · intro w hSw
                go_split_ands
                go_simp
              try simp only [Act.put, List.getElem_toArray, List.getElem_cons_zero, List.getElem_cons_succ, List.setIfInBounds_toArray, List.set_cons_zero, List.set_cons_succ]
              refine wpAnyH_take (i := 2) (v := undef) rfl (by kernel_rfl) (by kernel_rfl) (by kernel_rfl) (fun _ _ _ h => h) (Or.inr ⟨by rfl, rfl⟩) hS ?_
              try simp only [Act.put, List.getElem_toArray, List.getElem_cons_zero, List.getElem_cons_succ, List.setIfInBounds_toArray, List.set_cons_zero, List.set_cons_succ]
              refine wpAnyH_take (i := 3) (v := undef) rfl (by kernel_rfl) (by kernel_rfl) (by kernel_rfl) (fun _ _ _ h => h) (Or.inr ⟨by rfl, rfl⟩) hS ?_
              try simp only [Act.put, List.getElem_toArray, List.getElem_cons_zero, List.getElem_cons_succ, List.setIfInBounds_toArray, List.set_cons_zero, List.set_cons_succ]
              refine wpAnyH_take (i := 4) (v := undef) rfl (by kernel_rfl) (by kernel_rfl) (by kernel_rfl) (fun _ _ _ h => h) (Or.inr ⟨by rfl, rfl⟩) hS ?_
              try simp only [Act.put, List.getElem_toArray, List.getElem_cons_zero, List.getElem_cons_succ, List.setIfInBounds_toArray, List.set_cons_zero, List.set_cons_succ]
              refine wpAnyH_take (i := 5) (v := undef) rfl (by kernel_rfl) (by kernel_rfl) (by kernel_rfl) (fun _ _ _ h => h) (Or.inr ⟨by rfl, rfl⟩) hS ?_
              try simp only [Act.put, List.getElem_toArray, List.getElem_cons_zero, List.getElem_cons_succ, List.setIfInBounds_toArray, List.set_cons_zero, List.set_cons_succ]
              refine wpAnyH_take (i := 6) (v := undef) rfl (by kernel_rfl) (by kernel_rfl) (by kernel_rfl) (fun _ _ _ h => h) (Or.inr ⟨by rfl, rfl⟩) hS ?_
              try simp only [Act.put, List.getElem_toArray, List.getElem_cons_zero, List.getElem_cons_succ, List.setIfInBounds_toArray, List.set_cons_zero, List.set_cons_succ]
              refine wpAnyH_take (i := 7) (v := undef) rfl (by kernel_rfl) (by kernel_rfl) (by kernel_rfl) (fun _ _ _ h => h) (Or.inr ⟨by rfl, rfl⟩) hS ?_
              try simp only [Act.put, List.getElem_toArray, List.getElem_cons_zero, List.getElem_cons_succ, List.setIfInBounds_toArray, List.set_cons_zero, List.set_cons_succ]
              refine wpAnyH_take (i := 8) (v := undef) rfl (by kernel_rfl) (by kernel_rfl) (by kernel_rfl) (fun _ _ _ h => h) (Or.inr ⟨by rfl, rfl⟩) hS ?_
              try simp only [Act.put, List.getElem_toArray, List.getElem_cons_zero, List.getElem_cons_succ, List.setIfInBounds_toArray, List.set_cons_zero, List.set_cons_succ]
              refine wpAnyH_take (i := 9) (v := undef) rfl (by kernel_rfl) (by kernel_rfl) (by kernel_rfl) (fun _ _ _ h => h) (Or.inr ⟨by rfl, rfl⟩) hS ?_
              try simp only [Act.put, List.getElem_toArray, List.getElem_cons_zero, List.getElem_cons_succ, List.setIfInBounds_toArray, List.set_cons_zero, List.set_cons_succ]
              refine wpAnyH_take (i := 10) (v := undef) rfl (by kernel_rfl) (by kernel_rfl) (by kernel_rfl) (fun _ _ _ h => h) (Or.inr ⟨by rfl, rfl⟩) hS ?_
              try simp only [Act.put, List.getElem_toArray, List.getElem_cons_zero, List.getElem_cons_succ, List.setIfInBounds_toArray, List.set_cons_zero, List.set_cons_succ]
              refine wpAnyH_take (i := 11) (v := .bool false) rfl (by kernel_rfl) (by kernel_rfl) (by kernel_rfl) (fun _ _ _ h => h) (Or.inl ⟨by rfl, ?_⟩) hS ?_
              · intro w hSw
                go_split_ands
                go_simp
              try simp only [Act.put, List.getElem_toArray, List.getElem_cons_zero, List.getElem_cons_succ, List.setIfInBounds_toArray, List.set_cons_zero, List.set_cons_succ]
              refine wpAnyH_ready (rs := [12]) (by kernel_rfl) (by simp) ?_
              refine AllReadyH.cons rfl (fun K hK => ?_) AllReadyH.nil
              try simp only [Act.put, List.getElem_toArray, List.getElem_cons_zero, List.getElem_cons_succ, List.setIfInBounds_toArray, List.set_cons_zero, List.set_cons_succ]
              go_simp
              refine hK.out _ _ (⟨(box2 FA.out.box).1, (box2 FA.out.box).2, (box2 FB.out.box).1, (box2 FB.out.box).2⟩) (fun hS => ?_)
              clear hK K
              try simp only [Act.put, List.getElem_toArray, List.getElem_cons_zero, List.getElem_cons_succ, List.setIfInBounds_toArray, List.set_cons_zero, List.set_cons_succ]
              refine wpAnyH_done (by kernel_rfl) ?_ _
              try simp only [Act.put, List.getElem_toArray, List.getElem_cons_zero, List.getElem_cons_succ, List.setIfInBounds_toArray, List.set_cons_zero, List.set_cons_succ]
              clear hS
              go_wp2_with (fail)
              go_roundw
              case rel => exact ⟨k + 1, false, aC, cC, tC, by omega, rfl, by go_num, RK, FA, FB, FC, FU, eq_next (e := false) RE.out, RW⟩
              case measure => simp [intOf]; omega
            · replace RK : Hid (u5.drew.heap[bs]? = some (.cells #[.slice a xs.length c, .int .u8 (N : Int)] 24 (0, 0))) := RK.out
              have BD : Below u5.heap.size u5 u5.drew := (Below.refl _ u5).drew
              replace FA := Lib.hid (FA.out.below BD); replace FB := Lib.hid (FB.out.below BD); replace FC := Lib.hid (FC.out.below BD)
              replace RW := Lib.hid (RW.out.drew)
              clear BD
              refine wp_region_held_drew (S := fun w' => w'.cell? ⟨bA, 0, none⟩ = some (.slice aA tA.canon.nodes.length cA) ∧ w'.cell? ⟨bA, 1, none⟩ = some (.int .i64 tA.canon.root) ∧ w'.cell? ⟨bG, 0, none⟩ = some (.slice aG tG.canon.nodes.length cG) ∧ w'.cell? ⟨bG, 1, none⟩ = some (.int .i64 tG.canon.root)) (by kernel_rfl) (⟨(box2 FA.out.box).1, (box2 FA.out.box).2, (box2 FB.out.box).1, (box2 FB.out.box).2⟩) (fun hS => ?_)
              refine wpAnyH_take (i := 0) (v := .bool true) rfl (by kernel_rfl) (by kernel_rfl) (by kernel_rfl) (fun _ _ _ h => h) (Or.inl ⟨by rfl, ?_⟩) hS ?_
              · intro w hSw
                go_split_ands
                go_simp
              try simp only [Act.put, List.getElem_toArray, List.getElem_cons_zero, List.getElem_cons_succ, List.setIfInBounds_toArray, List.set_cons_zero, List.set_cons_succ]
              refine wpAnyH_take (i := 1) (v := .bool true) rfl (by kernel_rfl) (by kernel_rfl) (by kernel_rfl) (fun _ _ _ h => h) (Or.inl ⟨by rfl, ?_⟩) hS ?_
              · intro w hSw
                go_split_ands
                go_simp
              try simp only [Act.put, List.getElem_toArray, List.getElem_cons_zero, List.getElem_cons_succ, List.setIfInBounds_toArray, List.set_cons_zero, List.set_cons_succ]
              refine wpAnyH_take (i := 2) (v := (dval aA cA tA)) rfl (by kernel_rfl) (by kernel_rfl) (by kernel_rfl) (fun _ _ _ h => h) (Or.inl ⟨by rfl, ?_⟩) hS ?_
              · intro w hSw
                go_split_ands
                go_simp
              try simp only [Act.put, List.getElem_toArray, List.getElem_cons_zero, List.getElem_cons_succ, List.setIfInBounds_toArray, List.set_cons_zero, List.set_cons_succ]
              refine wpAnyH_take (i := 3) (v := .int .i64 (k : Int)) rfl (by kernel_rfl) (by kernel_rfl) (by kernel_rfl) (fun _ _ _ h => h) (Or.inl ⟨by rfl, ?_⟩) hS ?_
              · intro w hSw
                go_split_ands
                go_simp
              try simp only [Act.put, List.getElem_toArray, List.getElem_cons_zero, List.getElem_cons_succ, List.setIfInBounds_toArray, List.set_cons_zero, List.set_cons_succ]
              refine wpAnyH_take (i := 4) (v := .int .u64 (k : Int)) rfl (by kernel_rfl) (by kernel_rfl) (by kernel_rfl) (fun _ _ _ h => h) (Or.inl ⟨by rfl, ?_⟩) hS ?_
              · intro w hSw
                go_split_ands
                go_simp
                try exact IntWalk.u64_in _ ⟨by omega, by omega⟩
              try simp only [Act.put, List.getElem_toArray, List.getElem_cons_zero, List.getElem_cons_succ, List.setIfInBounds_toArray, List.set_cons_zero, List.set_cons_succ]
              refine wpAnyH_take (i := 6) (v := (dval aG cG tG)) rfl (by kernel_rfl) (by kernel_rfl) (by kernel_rfl) (fun _ _ _ h => h) (Or.inl ⟨by rfl, ?_⟩) hS ?_
              · intro w hSw
                go_split_ands
                go_simp
              try simp only [Act.put, List.getElem_toArray, List.getElem_cons_zero, List.getElem_cons_succ, List.setIfInBounds_toArray, List.set_cons_zero, List.set_cons_succ]
              refine wpAnyH_take (i := 7) (v := .int .i64 (k : Int)) rfl (by kernel_rfl) (by kernel_rfl) (by kernel_rfl) (fun _ _ _ h => h) (Or.inl ⟨by rfl, ?_⟩) hS ?_
              · intro w hSw
                go_split_ands
                go_simp
              try simp only [Act.put, List.getElem_toArray, List.getElem_cons_zero, List.getElem_cons_succ, List.setIfInBounds_toArray, List.set_cons_zero, List.set_cons_succ]
              refine wpAnyH_take (i := 8) (v := .int .u64 (k : Int)) rfl (by kernel_rfl) (by kernel_rfl) (by kernel_rfl) (fun _ _ _ h => h) (Or.inl ⟨by rfl, ?_⟩) hS ?_
              · intro w hSw
                go_split_ands
                go_simp
                try exact IntWalk.u64_in _ ⟨by omega, by omega⟩
              try simp only [Act.put, List.getElem_toArray, List.getElem_cons_zero, List.getElem_cons_succ, List.setIfInBounds_toArray, List.set_cons_zero, List.set_cons_succ]
              refine wpAnyH_ready (rs := [5]) (by kernel_rfl) (by simp) ?_
              refine AllReadyH.cons rfl (fun K hK => ?_) AllReadyH.nil
              try simp only [Act.put, List.getElem_toArray, List.getElem_cons_zero, List.getElem_cons_succ, List.setIfInBounds_toArray, List.set_cons_zero, List.set_cons_succ]
              go_simp
              refine (holds_k FA.out.td k (by omega) _ rfl).mono ?_
              rintro e1 uxP ⟨rfl, hb1⟩
              replace RK := Lib.hid (heap_below hb1 RK.out)
              replace FA := Lib.hid (FA.out.below hb1); replace FB := Lib.hid (FB.out.below hb1); replace FC := Lib.hid (FC.out.below hb1)
              replace RW := Lib.hid (RW.out.trans (hb1.mono RW.out.size))
              clear hb1
              refine hK.out _ _ (⟨(box2 FA.out.box).1, (box2 FA.out.box).2, (box2 FB.out.box).1, (box2 FB.out.box).2⟩) (fun hS => ?_)
              clear hK K
              try simp only [Act.put, List.getElem_toArray, List.getElem_cons_zero, List.getElem_cons_succ, List.setIfInBounds_toArray, List.set_cons_zero, List.set_cons_succ]
              refine wpAnyH_ready (rs := [9]) (by kernel_rfl) (by simp) ?_
              refine AllReadyH.cons rfl (fun K hK => ?_) AllReadyH.nil
              try simp only [Act.put, List.getElem_toArray, List.getElem_cons_zero, List.getElem_cons_succ, List.setIfInBounds_toArray, List.set_cons_zero, List.set_cons_succ]
              go_simp
              refine (holds_k FB.out.td k (by omega) _ rfl).mono ?_
              rintro e1 uxQ ⟨rfl, hb1⟩
              replace RK := Lib.hid (heap_below hb1 RK.out)
              replace FA := Lib.hid (FA.out.below hb1); replace FB := Lib.hid (FB.out.below hb1); replace FC := Lib.hid (FC.out.below hb1)
              replace RW := Lib.hid (RW.out.trans (hb1.mono RW.out.size))
              clear hb1
              refine hK.out _ _ (⟨(box2 FA.out.box).1, (box2 FA.out.box).2, (box2 FB.out.box).1, (box2 FB.out.box).2⟩) (fun hS => ?_)
              clear hK K
              try simp only [Act.put, List.getElem_toArray, List.getElem_cons_zero, List.getElem_cons_succ, List.setIfInBounds_toArray, List.set_cons_zero, List.set_cons_succ]
              refine wpAnyH_take (i := 10) (v := .bool (tA.ev (bits k) == tG.ev (bits k))) rfl (by kernel_rfl) (by kernel_rfl) (by kernel_rfl) (fun _ _ _ h => h) (Or.inl ⟨by rfl, ?_⟩) hS ?_
              · intro w hSw
                go_split_ands
                go_simp
              try simp only [Act.put, List.getElem_toArray, List.getElem_cons_zero, List.getElem_cons_succ, List.setIfInBounds_toArray, List.set_cons_zero, List.set_cons_succ]
              refine wpAnyH_take (i := 11) (v := .bool (tA.ev (bits k) == tG.ev (bits k))) rfl (by kernel_rfl) (by kernel_rfl) (by kernel_rfl) (fun _ _ _ h => h) (Or.inl ⟨by rfl, ?_⟩) hS ?_
              · intro w hSw
                go_split_ands
                go_simp
              try simp only [Act.put, List.getElem_toArray, List.getElem_cons_zero, List.getElem_cons_succ, List.setIfInBounds_toArray, List.set_cons_zero, List.set_cons_succ]
              refine wpAnyH_ready (rs := [12]) (by kernel_rfl) (by simp) ?_
              refine AllReadyH.cons rfl (fun K hK => ?_) AllReadyH.nil
              try simp only [Act.put, List.getElem_toArray, List.getElem_cons_zero, List.getElem_cons_succ, List.setIfInBounds_toArray, List.set_cons_zero, List.set_cons_succ]
              go_simp
              refine hK.out _ _ (⟨(box2 FA.out.box).1, (box2 FA.out.box).2, (box2 FB.out.box).1, (box2 FB.out.box).2⟩) (fun hS => ?_)
              clear hK K
              try simp only [Act.put, List.getElem_toArray, List.getElem_cons_zero, List.getElem_cons_succ, List.setIfInBounds_toArray, List.set_cons_zero, List.set_cons_succ]
              refine wpAnyH_done (by kernel_rfl) ?_ _
              try simp only [Act.put, List.getElem_toArray, List.getElem_cons_zero, List.getElem_cons_succ, List.setIfInBounds_toArray, List.set_cons_zero, List.set_cons_succ]
              clear hS
              go_wp2_with (fail)
              go_roundw
              case rel => exact ⟨k + 1, (tA.ev (bits k) == tG.ev (bits k)), aC, cC, tC, by omega, rfl, by go_num, RK, FA, FB, FC, FU, eq_next (e := true) RE.out, RW⟩
              case measure => simp [intOf]; omega
          focus
            cases e
            · replace RK : Hid (u7.drew.heap[bs]? = some (.cells #[.slice a xs.length c, .int .u8 (N : Int)] 24 (0, 0))) := RK.out
              have BD : Below u7.heap.size u7 u7.drew := (Below.refl _ u7).drew
              replace FA := Lib.hid (FA.out.below BD); replace FB := Lib.hid (FB.out.below BD); replace FC := Lib.hid (FC.out.below BD)
              replace RW := Lib.hid (RW.out.drew)
              clear BD
              refine wp_region_held_drew (S := fun w' => w'.cell? ⟨bA, 0, none⟩ = some (.slice aA tA.canon.nodes.length cA) ∧ w'.cell? ⟨bA, 1, none⟩ = some (.int .i64 tA.canon.root) ∧ w'.cell? ⟨bG, 0, none⟩ = some (.slice aG tG.canon.nodes.length cG) ∧ w'.cell? ⟨bG, 1, none⟩ = some (.int .i64 tG.canon.root)) (by kernel_rfl) (⟨(box2 FA.out.box).1, (box2 FA.out.box).2, (box2 FB.out.box).1, (box2 FB.out.box).2⟩) (fun hS => ?_)
              refine wpAnyH_take (i := 0) (v := .bool false) rfl (by kernel_rfl) (by kernel_rfl) (by kernel_rfl) (fun _ _ _ h => h) (Or.inl ⟨by rfl, ?_⟩) hS ?_
              · intro w hSw
                go_split_ands
                go_simp
              try simp only [Act.put, List.getElem_toArray, List.getElem_cons_zero, List.getElem_cons_succ, List.setIfInBounds_toArray, List.set_cons_zero, List.set_cons_succ]
              refine wpAnyH_take (i := 1) (v := .bool false) rfl (by kernel_rfl) (by kernel_rfl) (by kernel_rfl) (fun _ _ _ h => h) (Or.inl ⟨by rfl, ?_⟩) hS ?_
              · intro w hSw
                go_split_ands
                go_simp
              try simp only [Act.put, List.getElem_toArray, List.getElem_cons_zero, List.getElem_cons_succ, List.setIfInBounds_toArray, List.set_cons_zero, List.set_cons_succ]
              refine wpAnyH_take (i := 2) (v := undef) rfl (by kernel_rfl) (by kernel_rfl) (by kernel_rfl) (fun _ _ _ h => h) (Or.inr ⟨by rfl, rfl⟩) hS ?_
              try simp only [Act.put, List.getElem_toArray, List.getElem_cons_zero, List.getElem_cons_succ, List.setIfInBounds_toArray, List.set_cons_zero, List.set_cons_succ]
              refine wpAnyH_take (i := 3) (v := undef) rfl (by kernel_rfl) (by kernel_rfl) (by kernel_rfl) (fun _ _ _ h => h) (Or.inr ⟨by rfl, rfl⟩) hS ?_
              try simp only [Act.put, List.getElem_toArray, List.getElem_cons_zero, List.getElem_cons_succ, List.setIfInBounds_toArray, List.set_cons_zero, List.set_cons_succ]
              refine wpAnyH_take (i := 4) (v := undef) rfl (by kernel_rfl) (by kernel_rfl) (by kernel_rfl) (fun _ _ _ h => h) (Or.inr ⟨by rfl, rfl⟩) hS ?_
              try simp only [Act.put, List.getElem_toArray, List.getElem_cons_zero, List.getElem_cons_succ, List.setIfInBounds_toArray, List.set_cons_zero, List.set_cons_succ]
              refine wpAnyH_take (i := 5) (v := undef) rfl (by kernel_rfl) (by kernel_rfl) (by kernel_rfl) (fun _ _ _ h => h) (Or.inr ⟨by rfl, rfl⟩) hS ?_
              try simp only [Act.put, List.getElem_toArray, List.getElem_cons_zero, List.getElem_cons_succ, List.setIfInBounds_toArray, List.set_cons_zero, List.set_cons_succ]
              refine wpAnyH_take (i := 6) (v := undef) rfl (by kernel_rfl) (by kernel_rfl) (by kernel_rfl) (fun _ _ _ h => h) (Or.inr ⟨by rfl, rfl⟩) hS ?_
              try simp only [Act.put, List.getElem_toArray, List.getElem_cons_zero, List.getElem_cons_succ, List.setIfInBounds_toArray, List.set_cons_zero, List.set_cons_succ]
              refine wpAnyH_take (i := 7) (v := undef) rfl (by kernel_rfl) (by kernel_rfl) (by kernel_rfl) (fun _ _ _ h => h) (Or.inr ⟨by rfl, rfl⟩) hS ?_
              try simp only [Act.put, List.getElem_toArray, List.getElem_cons_zero, List.getElem_cons_succ, List.setIfInBounds_toArray, List.set_cons_zero, List.set_cons_succ]
              refine wpAnyH_take (i := 8) (v := undef) rfl (by kernel_rfl) (by kernel_rfl) (by kernel_rfl) (fun _ _ _ h => h) (Or.inr ⟨by rfl, rfl⟩) hS ?_
              try simp only [Act.put, List.getElem_toArray, List.getElem_cons_zero, List.getElem_cons_succ, List.setIfInBounds_toArray, List.set_cons_zero, List.set_cons_succ]
              refine wpAnyH_take (i := 9) (v := undef) rfl (by kernel_rfl) (by kernel_rfl) (by kernel_rfl) (fun _ _ _ h => h) (Or.inr ⟨by rfl, rfl⟩) hS ?_
              try simp only [Act.put, List.getElem_toArray, List.getElem_cons_zero, List.getElem_cons_succ, List.setIfInBounds_toArray, List.set_cons_zero, List.set_cons_succ]
              refine wpAnyH_take (i := 10) (v := undef) rfl (by kernel_rfl) (by kernel_rfl) (by kernel_rfl) (fun _ _ _ h => h) (Or.inr ⟨by rfl, rfl⟩) hS ?_
              try simp only [Act.put, List.getElem_toArray, List.getElem_cons_zero, List.getElem_cons_succ, List.setIfInBounds_toArray, List.set_cons_zero, List.set_cons_succ]
              refine wpAnyH_take (i := 11) (v := .bool false) rfl (by kernel_rfl) (by kernel_rfl) (by kernel_rfl) (fun _ _ _ h => h) (Or.inl ⟨by rfl, ?_⟩) hS ?_
              · intro w hSw
                go_split_ands
                go_simp
              try simp only [Act.put, List.getElem_toArray, List.getElem_cons_zero, List.getElem_cons_succ, List.setIfInBounds_toArray, List.set_cons_zero, List.set_cons_succ]
              refine wpAnyH_ready (rs := [12]) (by kernel_rfl) (by simp) ?_
              refine AllReadyH.cons rfl (fun K hK => ?_) AllReadyH.nil
              try simp only [Act.put, List.getElem_toArray, List.getElem_cons_zero, List.getElem_cons_succ, List.setIfInBounds_toArray, List.set_cons_zero, List.set_cons_succ]
              go_simp
              refine hK.out _ _ (⟨(box2 FA.out.box).1, (box2 FA.out.box).2, (box2 FB.out.box).1, (box2 FB.out.box).2⟩) (fun hS => ?_)
              clear hK K
              try simp only [Act.put, List.getElem_toArray, List.getElem_cons_zero, List.getElem_cons_succ, List.setIfInBounds_toArray, List.set_cons_zero, List.set_cons_succ]
              refine wpAnyH_done (by kernel_rfl) ?_ _
              try simp only [Act.put, List.getElem_toArray, List.getElem_cons_zero, List.getElem_cons_succ, List.setIfInBounds_toArray, List.set_cons_zero, List.set_cons_succ]
              clear hS
              go_wp2_with (fail)
              go_roundw
              case rel => exact ⟨k + 1, false, aQ, cQ, tQ, by omega, rfl, by go_num, RK, FA, FB, FC, FU, eq_next (e := false) RE.out, RW⟩
              case measure => simp [intOf]; omega
            · replace RK : Hid (u7.drew.heap[bs]? = some (.cells #[.slice a xs.length c, .int .u8 (N : Int)] 24 (0, 0))) := RK.out
              have BD : Below u7.heap.size u7 u7.drew := (Below.refl _ u7).drew
              replace FA := Lib.hid (FA.out.below BD); replace FB := Lib.hid (FB.out.below BD); replace FC := Lib.hid (FC.out.below BD)
              replace RW := Lib.hid (RW.out.drew)
              clear BD
              refine wp_region_held_drew (S := fun w' => w'.cell? ⟨bA, 0, none⟩ = some (.slice aA tA.canon.nodes.length cA) ∧ w'.cell? ⟨bA, 1, none⟩ = some (.int .i64 tA.canon.root) ∧ w'.cell? ⟨bG, 0, none⟩ = some (.slice aG tG.canon.nodes.length cG) ∧ w'.cell? ⟨bG, 1, none⟩ = some (.int .i64 tG.canon.root)) (by kernel_rfl) (⟨(box2 FA.out.box).1, (box2 FA.out.box).2, (box2 FB.out.box).1, (box2 FB.out.box).2⟩) (fun hS => ?_)
              refine wpAnyH_take (i := 0) (v := .bool true) rfl (by kernel_rfl) (by kernel_rfl) (by kernel_rfl) (fun _ _ _ h => h) (Or.inl ⟨by rfl, ?_⟩) hS ?_
              · intro w hSw
                go_split_ands
                go_simp
              try simp only [Act.put, List.getElem_toArray, List.getElem_cons_zero, List.getElem_cons_succ, List.setIfInBounds_toArray, List.set_cons_zero, List.set_cons_succ]
              refine wpAnyH_take (i := 1) (v := .bool true) rfl (by kernel_rfl) (by kernel_rfl) (by kernel_rfl) (fun _ _ _ h => h) (Or.inl ⟨by rfl, ?_⟩) hS ?_
              · intro w hSw
                go_split_ands
                go_simp
              try simp only [Act.put, List.getElem_toArray, List.getElem_cons_zero, List.getElem_cons_succ, List.setIfInBounds_toArray, List.set_cons_zero, List.set_cons_succ]
              refine wpAnyH_take (i := 2) (v := (dval aA cA tA)) rfl (by kernel_rfl) (by kernel_rfl) (by kernel_rfl) (fun _ _ _ h => h) (Or.inl ⟨by rfl, ?_⟩) hS ?_
              · intro w hSw
                go_split_ands
                go_simp
              try simp only [Act.put, List.getElem_toArray, List.getElem_cons_zero, List.getElem_cons_succ, List.setIfInBounds_toArray, List.set_cons_zero, List.set_cons_succ]
              refine wpAnyH_take (i := 3) (v := .int .i64 (k : Int)) rfl (by kernel_rfl) (by kernel_rfl) (by kernel_rfl) (fun _ _ _ h => h) (Or.inl ⟨by rfl, ?_⟩) hS ?_
              · intro w hSw
                go_split_ands
                go_simp
              try simp only [Act.put, List.getElem_toArray, List.getElem_cons_zero, List.getElem_cons_succ, List.setIfInBounds_toArray, List.set_cons_zero, List.set_cons_succ]
              refine wpAnyH_take (i := 4) (v := .int .u64 (k : Int)) rfl (by kernel_rfl) (by kernel_rfl) (by kernel_rfl) (fun _ _ _ h => h) (Or.inl ⟨by rfl, ?_⟩) hS ?_
              · intro w hSw
                go_split_ands
                go_simp
                try exact IntWalk.u64_in _ ⟨by omega, by omega⟩
              try simp only [Act.put, List.getElem_toArray, List.getElem_cons_zero, List.getElem_cons_succ, List.setIfInBounds_toArray, List.set_cons_zero, List.set_cons_succ]
              refine wpAnyH_take (i := 6) (v := (dval aG cG tG)) rfl (by kernel_rfl) (by kernel_rfl) (by kernel_rfl) (fun _ _ _ h => h) (Or.inl ⟨by rfl, ?_⟩) hS ?_
              · intro w hSw
                go_split_ands
                go_simp
              try simp only [Act.put, List.getElem_toArray, List.getElem_cons_zero, List.getElem_cons_succ, List.setIfInBounds_toArray, List.set_cons_zero, List.set_cons_succ]
              refine wpAnyH_take (i := 7) (v := .int .i64 (k : Int)) rfl (by kernel_rfl) (by kernel_rfl) (by kernel_rfl) (fun _ _ _ h => h) (Or.inl ⟨by rfl, ?_⟩) hS ?_
              · intro w hSw
                go_split_ands
                go_simp
              try simp only [Act.put, List.getElem_toArray, List.getElem_cons_zero, List.getElem_cons_succ, List.setIfInBounds_toArray, List.set_cons_zero, List.set_cons_succ]
              refine wpAnyH_take (i := 8) (v := .int .u64 (k : Int)) rfl (by kernel_rfl) (by kernel_rfl) (by kernel_rfl) (fun _ _ _ h => h) (Or.inl ⟨by rfl, ?_⟩) hS ?_
              · intro w hSw
                go_split_ands
                go_simp
                try exact IntWalk.u64_in _ ⟨by omega, by omega⟩
              try simp only [Act.put, List.getElem_toArray, List.getElem_cons_zero, List.getElem_cons_succ, List.setIfInBounds_toArray, List.set_cons_zero, List.set_cons_succ]
              refine wpAnyH_ready (rs := [5]) (by kernel_rfl) (by simp) ?_
              refine AllReadyH.cons rfl (fun K hK => ?_) AllReadyH.nil
              try simp only [Act.put, List.getElem_toArray, List.getElem_cons_zero, List.getElem_cons_succ, List.setIfInBounds_toArray, List.set_cons_zero, List.set_cons_succ]
              go_simp
              refine (holds_k FA.out.td k (by omega) _ rfl).mono ?_
              rintro e1 uxP ⟨rfl, hb1⟩
              replace RK := Lib.hid (heap_below hb1 RK.out)
              replace FA := Lib.hid (FA.out.below hb1); replace FB := Lib.hid (FB.out.below hb1); replace FC := Lib.hid (FC.out.below hb1)
              replace RW := Lib.hid (RW.out.trans (hb1.mono RW.out.size))
              clear hb1
              refine hK.out _ _ (⟨(box2 FA.out.box).1, (box2 FA.out.box).2, (box2 FB.out.box).1, (box2 FB.out.box).2⟩) (fun hS => ?_)
              clear hK K
              try simp only [Act.put, List.getElem_toArray, List.getElem_cons_zero, List.getElem_cons_succ, List.setIfInBounds_toArray, List.set_cons_zero, List.set_cons_succ]
              refine wpAnyH_ready (rs := [9]) (by kernel_rfl) (by simp) ?_
              refine AllReadyH.cons rfl (fun K hK => ?_) AllReadyH.nil
              try simp only [Act.put, List.getElem_toArray, List.getElem_cons_zero, List.getElem_cons_succ, List.setIfInBounds_toArray, List.set_cons_zero, List.set_cons_succ]
              go_simp
              refine (holds_k FB.out.td k (by omega) _ rfl).mono ?_
              rintro e1 uxQ ⟨rfl, hb1⟩
              replace RK := Lib.hid (heap_below hb1 RK.out)
              replace FA := Lib.hid (FA.out.below hb1); replace FB := Lib.hid (FB.out.below hb1); replace FC := Lib.hid (FC.out.below hb1)
              replace RW := Lib.hid (RW.out.trans (hb1.mono RW.out.size))
              clear hb1
              refine hK.out _ _ (⟨(box2 FA.out.box).1, (box2 FA.out.box).2, (box2 FB.out.box).1, (box2 FB.out.box).2⟩) (fun hS => ?_)
              clear hK K
              try simp only [Act.put, List.getElem_toArray, List.getElem_cons_zero, List.getElem_cons_succ, List.setIfInBounds_toArray, List.set_cons_zero, List.set_cons_succ]
              refine wpAnyH_take (i := 10) (v := .bool (tA.ev (bits k) == tG.ev (bits k))) rfl (by kernel_rfl) (by kernel_rfl) (by kernel_rfl) (fun _ _ _ h => h) (Or.inl ⟨by rfl, ?_⟩) hS ?_
              · intro w hSw
                go_split_ands
                go_simp
              try simp only [Act.put, List.getElem_toArray, List.getElem_cons_zero, List.getElem_cons_succ, List.setIfInBounds_toArray, List.set_cons_zero, List.set_cons_succ]
              refine wpAnyH_take (i := 11) (v := .bool (tA.ev (bits k) == tG.ev (bits k))) rfl (by kernel_rfl) (by kernel_rfl) (by kernel_rfl) (fun _ _ _ h => h) (Or.inl ⟨by rfl, ?_⟩) hS ?_
              · intro w hSw
                go_split_ands
                go_simp
              try simp only [Act.put, List.getElem_toArray, List.getElem_cons_zero, List.getElem_cons_succ, List.setIfInBounds_toArray, List.set_cons_zero, List.set_cons_succ]
              refine wpAnyH_ready (rs := [12]) (by kernel_rfl) (by simp) ?_
              refine AllReadyH.cons rfl (fun K hK => ?_) AllReadyH.nil
              try simp only [Act.put, List.getElem_toArray, List.getElem_cons_zero, List.getElem_cons_succ, List.setIfInBounds_toArray, List.set_cons_zero, List.set_cons_succ]
              go_simp
              refine hK.out _ _ (⟨(box2 FA.out.box).1, (box2 FA.out.box).2, (box2 FB.out.box).1, (box2 FB.out.box).2⟩) (fun hS => ?_)
              clear hK K
              try simp only [Act.put, List.getElem_toArray, List.getElem_cons_zero, List.getElem_cons_succ, List.setIfInBounds_toArray, List.set_cons_zero, List.set_cons_succ]
              refine wpAnyH_done (by kernel_rfl) ?_ _
              try simp only [Act.put, List.getElem_toArray, List.getElem_cons_zero, List.getElem_cons_succ, List.setIfInBounds_toArray, List.set_cons_zero, List.set_cons_succ]
              clear hS
              go_wp2_with (fail)
              go_roundw
              case rel => exact ⟨k + 1, (tA.ev (bits k) == tG.ev (bits k)), aQ, cQ, tQ, by omega, rfl, by go_num, RK, FA, FB, FC, FU, eq_next (e := true) RE.out, RW⟩
              case measure => simp [intOf]; omega
    · obtain rfl : k = P := by omega
      obtain rfl : tC = tA := Uni.done (by rw [HP.out]; exact RU.out) RC.out.ok OKA.out BLA.out
      have hee : e = decide (tC = tG) := by
        rw [Bool.eq_iff_iff, decide_eq_true_iff, same_all OKA.out OKB.out BLA.out BLB.out, HP.out]
        exact RE.out
      subst hee
      obtain ⟨q0, q1⟩ := box2 RC.out.box
      go_wp2_with (fail)
      refine (check_t RC.out.td).mono ?_
      rintro e1 u2 ⟨rfl, hb1⟩
      replace RA := Lib.hid (RA.out.below hb1); replace RB := Lib.hid (RB.out.below hb1); replace RC := Lib.hid (RC.out.below hb1)
      replace RW := Lib.hid (RW.out.trans (hb1.mono RW.out.size))
      clear hb1 q0 q1
      obtain ⟨q0, q1⟩ := box2 RC.out.box
      obtain ⟨r0, r1⟩ := box2 RA.out.box
      go_wp2_with (fail)
      refine (same_k RA.out.td RC.out.td).mono ?_
      rintro e1 u3 ⟨rfl, hb1⟩
      replace RA := Lib.hid (RA.out.below hb1); replace RB := Lib.hid (RB.out.below hb1)
      replace RW := Lib.hid (RW.out.trans (hb1.mono RW.out.size))
      clear hb1 q0 q1 r0 r1
      obtain ⟨q0, q1⟩ := box2 RB.out.box
      obtain ⟨r0, r1⟩ := box2 RA.out.box
      obtain ⟨ee, hee⟩ : ∃ ee, decide (tC = tG) = ee := ⟨_, rfl⟩
      have ST := Lib.hid (same_t RA.out.td RB.out.td)
      rw [hee] at ST ⊢
      clear hee
      go_wp2_with (fail)
      refine ST.out.mono ?_
      rintro e1 u4 ⟨rfl, hb1⟩
      have BF := Lib.hid (RW.out.trans (hb1.mono RW.out.size))
      clear hb1 q0 q1 r0 r1 ST
      have hbb : (ee == ee) = true := by simp
      go_wp2_with (fail)
      go_ret
      exact ⟨by simp, BF.out⟩

end Go.Proofs.Ytohmibmakelclaa

namespace Go.Proofs.Ytohmibmakelclaa.diagramCanonicalDone
set_option linter.unusedVariables false
set_option linter.unusedSimpArgs false
open Go.ChangeShapes Go.WideShapes Go.ChangeAt Go.RowKit Go.Proofs.Ytohmibmakelclaa

theorem own : ownKnob Try.prog.godebug = none := by kernel_rfl
theorem laidOut : laidOutB Try.prog = true := by kernel_rfl

set_option maxRecDepth 100000 in
theorem lifted (os : Os) (started : os.Started) (H : Type) (enc : TypeId × Value → H) :
    ReturnsInHanded {} Try.checked os 3 .any (Rows.diagramCanonicalSpec.pre6 enc Try.prog Try.f3 Rows.diagramCanonicalRow.domain false) (Rows.diagramCanonicalSpec.post enc Try.prog Try.f3 false true false false) := by
  refine returnsInHanded_of_change (C := Try.checked) own started (by kernel_rfl) Try.func3
    (ChangeSpec.witness6 (enc := enc) (C := Try.checked) false ⟨#[], #[.agg #[.slice none 0 0, .int .u8 0], .agg #[.slice none 0 0, .int .u8 0]], []⟩ 8 (by kernel_rfl) (by kernel_rfl) (by kernel_rfl) (by kernel_rfl)) ?_
  intro W base args ds gs before hval0 hW hcnd _
  have hval : ∀ (j : Nat) t v, Try.f3.params[j]? = some t → args[j]? = some v → Value.okWide Try.prog W .any base t v := hval0
  have hW' := hW
  obtain ⟨p, q, hA0, hV, rfl, hfz, hnd⟩ := hW
  have hA : DataW.TrodAll enc Try.prog W 0 (fun _ => true) true Try.f3.params.toList args.toList ds p := hA0
  rw [Try.params3] at hA hval
  obtain ⟨v0, vs0, d0, ds0, p0, q0, hargs, rfl, rfl, h0, r0⟩ := trodAll_cons hA
  obtain ⟨v1, vs1, d1, ds1, p1, q1, rfl, rfl, rfl, h1, r1⟩ := trodAll_cons r0
  obtain ⟨rfl, rfl, rfl⟩ := trodAll_nil r1
  obtain rfl : args = #[v0, v1] := by cases args; simp_all
  obtain ⟨rfl, rfl⟩ := trodVars_none hV
  obtain ⟨c0, rfl, hc0⟩ := okWide_struct Try.underlying24 (hval 0 24 v0 rfl rfl)
  have k0 := h0
  have lt0 : ∀ x ∈ p0, x.block < W.heap.size := by obtain ⟨m, hm⟩ := k0; exact DataW.trod_lt m _ _ _ hm
  obtain ⟨fuel0, hf0⟩ := h0
  obtain ⟨u0, x0, N0, hu0, S0⟩ := open_set hf0 (by simpa [Value.cells] using hc0.trans (by kernel_rfl))
  obtain rfl : c0 = #[u0, .int .u8 (N0 : Int)] := by cases c0; simpa [Value.cells] using hu0
  obtain ⟨c1, rfl, hc1⟩ := okWide_struct Try.underlying24 (hval 1 24 v1 rfl rfl)
  have k1 := h1
  have lt1 : ∀ x ∈ p1, x.block < W.heap.size := by obtain ⟨m, hm⟩ := k1; exact DataW.trod_lt m _ _ _ hm
  obtain ⟨fuel1, hf1⟩ := h1
  obtain ⟨u1, x1, N1, hu1, S1⟩ := open_set hf1 (by simpa [Value.cells] using hc1.trans (by kernel_rfl))
  obtain rfl : c1 = #[u1, .int .u8 (N1 : Int)] := by cases c1; simpa [Value.cells] using hu1
  clear hA0 hval0
  refine (canonicalLaw W _ _ x0 x1 N0 N1 S0 S1).mono fun e W' ⟨he, bel⟩ => ?_
  subst he
  exact ⟨_, rfl, _, _, _, [], _, [], hW', trodAll_mk1 (shut_bool Try.underlying4 _), (trodAll_cons_mk (Below.trod laidOut (by kernel_rfl) (of_decide_eq_true (by kernel_rfl)) k0 bel lt0) (trodAll_cons_mk (Below.trod laidOut (by kernel_rfl) (of_decide_eq_true (by kernel_rfl)) k1 bel lt1) trodAll_mk0)), rfl, bel.frame _, fun h => by cases h⟩

theorem over : Rows.diagramCanonicalRow.holds Try.pinned (OpenSpec.ofChange Rows.diagramCanonicalSpec) :=
  OpenClaim.holds_of_wide 3 Try.f3 rfl rfl rfl rfl rfl rfl rfl ⟨rfl, rfl, rfl, rfl, rfl⟩ rfl rfl rfl rfl rfl (by kernel_rfl) Try.func3 (by kernel_rfl)
    (of_decide_eq_true (by kernel_rfl)) (by unfold Func.isWrapper; first | (rw [if_pos (by decide +kernel)]; kernel_rfl) | (rw [if_neg (by decide +kernel)]; exact ⟨rfl, rfl⟩))
    (fun os started H enc _ => lifted os started H enc)

theorem proved : Rows.DiagramCanonicalSaid := over
#print axioms proved
end Go.Proofs.Ytohmibmakelclaa.diagramCanonicalDone
