/-
  DiagramLeast: the walk.
  No condition.
-/
import Derived.Test.YtohmibmakelclaaPkQ
import Derived.Test.YtohmibmakelclaaPkR
import Derived.WalkKit
import Derived.ProofKit
import Derived.OpenShut
namespace Go.Proofs.Ytohmibmakelclaa
set_option linter.unusedVariables false
set_option linter.unusedSimpArgs false
open Go.RowKit

/-- The diagram of a set of few conditions. -/
theorem SetOf.td {w w' : World} {e : Ending} {n : Nat} (h : SetOf w w' e n) (hn : n ≤ 6) : ∃ (a : Option Addr) (c : Nat) (t : T), e = .returned (dval a c t) ∧ TD w' (dval a c t) t ∧ t.bel n := by
  obtain ⟨a, c, t, rfl, ok, bl, hM⟩ := h
  exact ⟨a, c, t, rfl, ⟨hM NoB (fun b h => h.elim), ok, Nat.le_trans (ok.small bl hn) (by decide)⟩, bl⟩

set_option maxRecDepth 100000 in
set_option maxHeartbeats 4000000 in
theorem leastLaw (w : World) (v : Value) (xs : List Int) (N : Nat) (hs : SetAt w v xs N) :
    Calls Try.prog 8 #[v] w fun e w' => e = .returned (.bool true) ∧ Below w.heap.size w w' := by
  obtain ⟨a, c, rfl⟩ := hs.shape
  obtain ⟨w0, b0, e0, hb0, z0, h0, B0⟩ := laid w #[.slice a xs.length c, .int .u8 (N : Int)] 24
  have BW : Hid (Below w.heap.size w w0) := B0
  have K : Hid (w0.heap[b0]? = some (.cells #[.slice a xs.length c, .int .u8 (N : Int)] 24 (0, 0))) := h0
  have HS := Lib.hid (hs.below B0)
  clear h0 B0 hs
  go_enter Try.func8, Try.ntmps8
  go_wp2_with (fail)
  refine (sanity_any w0).mono ?_
  rintro e w1 ⟨rfl, hb1⟩
  replace HS := Lib.hid (HS.out.below hb1)
  replace BW := Lib.hid (BW.out.trans (hb1.mono BW.out.size))
  replace K := Lib.hid (heap_below hb1 K.out)
  clear hb1
  obtain ⟨k0, k1⟩ := box2v K.out
  go_wp2_with (fail)
  refine (lmade_any w1 _ xs N HS.out).mono ?_
  rintro e w2 ⟨hR, hb2⟩
  obtain ⟨aA, cA, tA, rfl, tdA, blA⟩ := hR.td (by omega)
  have BL := Lib.hid blA
  clear blA hR k0 k1
  obtain ⟨w3, bA, eA, hBA, -, hA, BA⟩ := laid w2 #[.slice aA tA.canon.nodes.length cA, .int .i64 tA.canon.root] 28
  have BB := hb2.trans (BA.mono hb2.size)
  replace HS := Lib.hid (HS.out.below BB)
  replace BW := Lib.hid (BW.out.trans (BB.mono BW.out.size))
  replace K := Lib.hid (heap_below BB K.out)
  have HA := Lib.hid hA; have DA := Lib.hid (tdA.below BA)
  clear hb2 hA BA BB tdA
  clear K HS
  obtain ⟨p0A, p1A⟩ := box2 HA.out
  go_wp2_with (with_reducible refine wpList_store_last rfl 28 (.tmp 4) (.tmp 10) rfl dg0 #[.slice aA tA.canon.nodes.length cA, .int .i64 tA.canon.root] rfl rfl sizedg rfl (by simp [Value.oneCell']) ?_)
  clear p0A p1A eA hBA
  refine (least_t DA.out).mono ?_
  rintro e w4 ⟨rfl, hb4⟩
  replace HA := Lib.hid (heap_below hb4 HA.out)
  replace DA := Lib.hid (DA.out.below hb4)
  replace BW := Lib.hid (BW.out.trans (hb4.mono BW.out.size))
  clear hb4
  by_cases hl : tA = .leaf false
  · rw [if_pos hl]
    subst hl
    simp only [ne_eq, not_true_eq_false, decide_false, Int.natCast_zero]
    go_wp2_with (fail)
    have HAd : Hid (w4.drew.heap[bA]? = some (.cells #[.slice aA (T.leaf false).canon.nodes.length cA, .int .i64 (T.leaf false).canon.root] 28 (0, 0))) := HA.out
    have DAd := Lib.hid (DA.out.below (Below.refl _ w4).drew)
    have BWd := Lib.hid (BW.out.drew)
    refine wp_region_held_drew (S := fun w' => w'.cell? ⟨bA, 0, none⟩ = some (.slice aA (T.leaf false).canon.nodes.length cA) ∧ w'.cell? ⟨bA, 1, none⟩ = some (.int .i64 (T.leaf false).canon.root)) (by kernel_rfl) (box2 HAd.out) (fun hS => ?_)
    refine wpAnyH_take (i := 0) (v := (dval aA cA (T.leaf false))) rfl (by kernel_rfl) (by kernel_rfl) (by kernel_rfl) (fun _ _ _ h => h) (Or.inl ⟨by rfl, ?_⟩) hS ?_
    · intro w hSw
      go_split_ands
      go_simp
    try simp only [Act.put, List.getElem_toArray, List.getElem_cons_zero, List.getElem_cons_succ, List.setIfInBounds_toArray, List.set_cons_zero, List.set_cons_succ]
    refine wpAnyH_ready (rs := [1]) (by kernel_rfl) (by simp) ?_
    refine AllReadyH.cons rfl (fun K hK => ?_) AllReadyH.nil
    try simp only [Act.put, List.getElem_toArray, List.getElem_cons_zero, List.getElem_cons_succ, List.setIfInBounds_toArray, List.set_cons_zero, List.set_cons_succ]
    go_simp
    refine (constant_t w4.drew false).mono ?_
    rintro e w8 ⟨⟨aC, cC, rfl, tdC⟩, hb8⟩
    have HA8 := Lib.hid (heap_below hb8 HAd.out); have DA8 := Lib.hid (DAd.out.below hb8); have TC := Lib.hid tdC
    have BW8 := Lib.hid (BWd.out.trans (hb8.mono BWd.out.size))
    clear hb8 tdC
    refine hK.out _ _ (box2 HA8.out) (fun hS => ?_)
    clear hK K
    try simp only [Act.put, List.getElem_toArray, List.getElem_cons_zero, List.getElem_cons_succ, List.setIfInBounds_toArray, List.set_cons_zero, List.set_cons_succ]
    refine wpAnyH_ready (rs := [2]) (by kernel_rfl) (by simp) ?_
    refine AllReadyH.cons rfl (fun K hK => ?_) AllReadyH.nil
    try simp only [Act.put, List.getElem_toArray, List.getElem_cons_zero, List.getElem_cons_succ, List.setIfInBounds_toArray, List.set_cons_zero, List.set_cons_succ]
    go_simp
    refine (same_t DA8.out TC.out).mono ?_
    rintro e w9 ⟨rfl, hb9⟩
    rw [show decide (T.leaf false = T.leaf false) = true by simp]
    have HA9 := Lib.hid (heap_below hb9 HA8.out)
    have BW9 := Lib.hid (BW8.out.trans (hb9.mono BW8.out.size))
    clear hb9
    refine hK.out _ _ (box2 HA9.out) (fun hS => ?_)
    clear hK K
    try simp only [Act.put, List.getElem_toArray, List.getElem_cons_zero, List.getElem_cons_succ, List.setIfInBounds_toArray, List.set_cons_zero, List.set_cons_succ]
    refine wpAnyH_take (i := 3) (v := .bool true) rfl (by kernel_rfl) (by kernel_rfl) (by kernel_rfl) (fun _ _ _ h => h) (Or.inl ⟨by rfl, ?_⟩) hS ?_
    · intro w hSw
      go_split_ands
      go_simp
    try simp only [Act.put, List.getElem_toArray, List.getElem_cons_zero, List.getElem_cons_succ, List.setIfInBounds_toArray, List.set_cons_zero, List.set_cons_succ]
    refine wpAnyH_take (i := 4) (v := .int .u64 0) rfl (by kernel_rfl) (by kernel_rfl) (by kernel_rfl) (fun _ _ _ h => h) (Or.inl ⟨by rfl, ?_⟩) hS ?_
    · intro w hSw
      go_split_ands
      go_simp
    try simp only [Act.put, List.getElem_toArray, List.getElem_cons_zero, List.getElem_cons_succ, List.setIfInBounds_toArray, List.set_cons_zero, List.set_cons_succ]
    refine wpAnyH_take (i := 5) (v := .bool true) rfl (by kernel_rfl) (by kernel_rfl) (by kernel_rfl) (fun _ _ _ h => h) (Or.inl ⟨by rfl, ?_⟩) hS ?_
    · intro w hSw
      go_split_ands
      go_simp
    try simp only [Act.put, List.getElem_toArray, List.getElem_cons_zero, List.getElem_cons_succ, List.setIfInBounds_toArray, List.set_cons_zero, List.set_cons_succ]
    refine wpAnyH_take (i := 6) (v := .bool true) rfl (by kernel_rfl) (by kernel_rfl) (by kernel_rfl) (fun _ _ _ h => h) (Or.inl ⟨by rfl, ?_⟩) hS ?_
    · intro w hSw
      go_split_ands
      go_simp
    try simp only [Act.put, List.getElem_toArray, List.getElem_cons_zero, List.getElem_cons_succ, List.setIfInBounds_toArray, List.set_cons_zero, List.set_cons_succ]
    refine wpAnyH_take (i := 7) (v := .bool true) rfl (by kernel_rfl) (by kernel_rfl) (by kernel_rfl) (fun _ _ _ h => h) (Or.inl ⟨by rfl, ?_⟩) hS ?_
    · intro w hSw
      go_split_ands
      go_simp
    try simp only [Act.put, List.getElem_toArray, List.getElem_cons_zero, List.getElem_cons_succ, List.setIfInBounds_toArray, List.set_cons_zero, List.set_cons_succ]
    refine wpAnyH_take (i := 8) (v := .bool true) rfl (by kernel_rfl) (by kernel_rfl) (by kernel_rfl) (fun _ _ _ h => h) (Or.inl ⟨by rfl, ?_⟩) hS ?_
    · intro w hSw
      go_split_ands
      go_simp
    try simp only [Act.put, List.getElem_toArray, List.getElem_cons_zero, List.getElem_cons_succ, List.setIfInBounds_toArray, List.set_cons_zero, List.set_cons_succ]
    refine wpAnyH_take (i := 9) (v := .bool true) rfl (by kernel_rfl) (by kernel_rfl) (by kernel_rfl) (fun _ _ _ h => h) (Or.inl ⟨by rfl, ?_⟩) hS ?_
    · intro w hSw
      go_split_ands
      go_simp
    try simp only [Act.put, List.getElem_toArray, List.getElem_cons_zero, List.getElem_cons_succ, List.setIfInBounds_toArray, List.set_cons_zero, List.set_cons_succ]
    refine wpAnyH_ready (rs := [10]) (by kernel_rfl) (by simp) ?_
    refine AllReadyH.cons rfl (fun K hK => ?_) AllReadyH.nil
    try simp only [Act.put, List.getElem_toArray, List.getElem_cons_zero, List.getElem_cons_succ, List.setIfInBounds_toArray, List.set_cons_zero, List.set_cons_succ]
    go_simp
    refine hK.out _ _ (box2 HA9.out) (fun hS => ?_)
    clear hK K
    try simp only [Act.put, List.getElem_toArray, List.getElem_cons_zero, List.getElem_cons_succ, List.setIfInBounds_toArray, List.set_cons_zero, List.set_cons_succ]
    refine wpAnyH_done (by kernel_rfl) ?_ _
    try simp only [Act.put, List.getElem_toArray, List.getElem_cons_zero, List.getElem_cons_succ, List.setIfInBounds_toArray, List.set_cons_zero, List.set_cons_succ]
    clear hS
    go_wp2_with (fail)
    go_ret
    exact ⟨by rfl, BW9.out⟩
  · have hd : decide (tA ≠ .leaf false) = true := by simpa using hl
    rw [if_neg hl, hd]
    have hl6 : tA.lst < 64 := Nat.lt_of_lt_of_le (T.lst_small tA BL.out) (show 2 ^ (N % 7) ≤ 2 ^ 6 from Nat.pow_le_pow_right (by omega) (by omega))
    have hmin := T.lst_le tA DA.out.ok
    have hin := T.lst_in tA DA.out.ok hl
    obtain ⟨m, hm⟩ : ∃ m, tA.lst = m := ⟨_, rfl⟩
    rw [hm] at hl6 hmin hin ⊢
    have HMIN := Lib.hid hmin; have HIN := Lib.hid hin
    have hm0 : (0 : Int) ≤ (m : Int) := by omega
    have hm1 : (m : Int) < 64 := by omega
    have B0' : Hid (Below w4.heap.size w4 w4) := Below.refl _ _
    clear hl hd hmin hin hm
    go_wp2_with (fail)
    go_loopw [7] (fun i wr => ∃ j : Nat, j ≤ m ∧ i = .int .u64 j ∧ Hid (Below w4.heap.size w4 wr)) (fun i _ => m - (intOf i).toNat)
    case atStart => exact ⟨0, Nat.zero_le _, rfl, B0'⟩
    case round =>
      clear B0'
      obtain ⟨j, hj, rfl, BR⟩ := hrel
      obtain ⟨x0, x1⟩ := box2 (heap_below BR.out HA.out)
      by_cases hlt : j < m
      · have hj1 : (j : Int) < (m : Int) := by omega
        have hj2 : (j : Int) < 64 := by omega
        have hev : tA.ev (bits j) = false := by
          cases h : tA.ev (bits j) with
          | false => rfl
          | true => have := HMIN.out j h; omega
        have HC := Lib.hid (holds_k (DA.out.below BR.out) j (by omega) false hev)
        clear hev
        go_wp2_with (fail)
        refine HC.out.mono ?_
        rintro e w9 ⟨rfl, hb9⟩
        have BR9 := Lib.hid (BR.out.trans (hb9.mono BR.out.size))
        clear hb9 x0 x1 HC
        go_wp2_with (fail)
        go_roundw
        case rel => exact ⟨j + 1, by omega, by go_num, BR9⟩
        case measure => simp [intOf]; omega
      · obtain rfl : j = m := by omega
        have HC := Lib.hid (holds_k (DA.out.below BR.out) j (by omega) true HIN.out)
        go_wp2_with (fail)
        refine HC.out.mono ?_
        rintro e w9 ⟨rfl, hb9⟩
        have BF := Lib.hid (BW.out.trans ((BR.out.trans (hb9.mono BR.out.size)).mono BW.out.size))
        clear hb9 x0 x1 HC
        go_wp2_with (fail)
        go_ret
        exact ⟨by rfl, BF.out⟩

end Go.Proofs.Ytohmibmakelclaa

namespace Go.Proofs.Ytohmibmakelclaa
set_option linter.unusedVariables false
set_option linter.unusedSimpArgs false
open Go.RowKit

theorem upd_same (x : Nat → Bool) (v : Nat) : upd x v (x v) = x := by
  funext i; unfold upd; split
  · rename_i h; rw [h]
  · rfl
theorem upd_upd (x : Nat → Bool) (v : Nat) (a b : Bool) : upd (upd x v a) v b = upd x v b := by
  funext i; unfold upd; split <;> rfl
theorem same_k {w : World} {va vb : Value} {t : T} (ha : TD w va t) (hb : TD w vb t) : Calls Try.prog 24 #[va, vb] w fun e w' => e = .returned (.bool true) ∧ Below w.heap.size w w' := by
  refine (same_t ha hb).mono ?_
  rintro e w' ⟨rfl, hbl⟩
  exact ⟨by simp, hbl⟩
theorem back_ev {t h l : T} {v : Nat} (hh : ∀ x, h.ev x = t.ev (upd x v true)) (hl : ∀ x, l.ev x = t.ev (upd x v false)) (x : Nat → Bool) : t.ev x = ((litT v).ev x && h.ev x || !(litT v).ev x && l.ev x) := by
  rw [hh, hl]
  have e : (litT v).ev x = x v := by simp [T.ev]
  rw [e]
  have := upd_same x v
  cases hx : x v <;> rw [hx] at this <;> simp [this]

set_option maxRecDepth 100000 in
set_option maxHeartbeats 4000000 in
theorem expansionLaw (w : World) (v : Value) (xs : List Int) (N : Nat) (hs : SetAt w v xs N) (q : Int) (hq : 0 ≤ q ∧ q ≤ 255) :
    Calls Try.prog 7 #[v, .int .u8 q] w fun e w' => e = .returned (.bool true) ∧ Below w.heap.size w w' := by
  obtain ⟨a, c, rfl⟩ := hs.shape
  obtain ⟨w0, b0, e0, hb0, z0, h0, B0⟩ := laid w #[.slice a xs.length c, .int .u8 (N : Int)] 24
  have BW : Hid (Below w.heap.size w w0) := B0
  have K : Hid (w0.heap[b0]? = some (.cells #[.slice a xs.length c, .int .u8 (N : Int)] 24 (0, 0))) := h0
  have HS := Lib.hid (hs.below B0)
  obtain ⟨v, hv⟩ : ∃ v : Nat, q.tmod 64 = v := ⟨(q % 64).toNat, by rw [Int.tmod_eq_emod_of_nonneg hq.1]; omega⟩
  have hv6 : v ≤ 63 := by rw [Int.tmod_eq_emod_of_nonneg hq.1] at hv; omega
  have hvi : (0 : Int) ≤ v ∧ (v : Int) ≤ 63 := by omega
  clear h0 B0 hs
  go_enter Try.func7, Try.ntmps7
  go_wp2_with (fail)
  refine (sanity_any w0).mono ?_
  rintro e w1 ⟨rfl, hb1⟩
  replace HS := Lib.hid (HS.out.below hb1)
  replace BW := Lib.hid (BW.out.trans (hb1.mono BW.out.size))
  replace K := Lib.hid (heap_below hb1 K.out)
  clear hb1
  obtain ⟨k0, k1⟩ := box2v K.out
  go_wp2_with (fail)
  refine (lmade_any w1 _ xs N HS.out).mono ?_
  rintro e w2 ⟨hR, hb2⟩
  obtain ⟨aA, cA, tA, rfl, tdA, blA⟩ := hR.td (by omega)
  have DP : Hid (Dep 6 tA.ev) := T.dep (T.bel_mono blA (by omega))
  clear blA hR k0 k1
  obtain ⟨w3, bA, eA, hBA, -, hA, BA⟩ := laid w2 #[.slice aA tA.canon.nodes.length cA, .int .i64 tA.canon.root] 28
  have BB := hb2.trans (BA.mono hb2.size)
  replace HS := Lib.hid (HS.out.below BB)
  replace BW := Lib.hid (BW.out.trans (BB.mono BW.out.size))
  replace K := Lib.hid (heap_below BB K.out)
  have HA := Lib.hid hA; have DA := Lib.hid (tdA.below BA)
  clear hb2 hA BA BB tdA
  clear K HS
  obtain ⟨p0A, p1A⟩ := box2 HA.out
  go_wp2_with (with_reducible refine wpList_store_last rfl 28 (.tmp 6) (.tmp 25) rfl dg0 #[.slice aA tA.canon.nodes.length cA, .int .i64 tA.canon.root] rfl rfl sizedg rfl (by simp [Value.oneCell']) ?_)
  clear p0A p1A eA hBA
  refine (restrict_t DA.out v hv6 true (few_of_dep (DP.out.res v true))).mono ?_
  rintro e w4 ⟨hR, hb4⟩
  obtain ⟨aH, cH, tH, rfl, evH, tdH, -⟩ := hR
  have EH := Lib.hid evH
  obtain ⟨w5, bH, eH, hBH, -, hH, BH⟩ := laid w4 #[.slice aH tH.canon.nodes.length cH, .int .i64 tH.canon.root] 28
  have BB := hb4.trans (BH.mono hb4.size)
  replace HA := Lib.hid (heap_below BB HA.out)
  replace DA := Lib.hid (DA.out.below BB)
  replace BW := Lib.hid (BW.out.trans (BB.mono BW.out.size))
  have HH := Lib.hid hH; have DH := Lib.hid (tdH.below BH)
  clear hb4 hH BH BB tdH
  clear evH
  obtain ⟨p0A, p1A⟩ := box2 HA.out
  go_wp2_with (with_reducible refine wpList_store_last rfl 28 (.tmp 8) (.tmp 33) rfl dg0 #[.slice aH tH.canon.nodes.length cH, .int .i64 tH.canon.root] rfl rfl sizedg rfl (by simp [Value.oneCell']) ?_)
  clear p0A p1A eH hBH
  refine (restrict_t DA.out v hv6 false (few_of_dep (DP.out.res v false))).mono ?_
  rintro e w6 ⟨hR, hb6⟩
  obtain ⟨aL, cL, tL, rfl, evL, tdL, -⟩ := hR
  have EL := Lib.hid evL
  obtain ⟨w7, bL, eL, hBL, -, hL, BL⟩ := laid w6 #[.slice aL tL.canon.nodes.length cL, .int .i64 tL.canon.root] 28
  have BB := hb6.trans (BL.mono hb6.size)
  replace HA := Lib.hid (heap_below BB HA.out)
  replace DA := Lib.hid (DA.out.below BB)
  replace HH := Lib.hid (heap_below BB HH.out)
  replace DH := Lib.hid (DH.out.below BB)
  replace BW := Lib.hid (BW.out.trans (BB.mono BW.out.size))
  have HL := Lib.hid hL; have DL := Lib.hid (tdL.below BL)
  clear hb6 hL BL BB tdL
  clear evL
  obtain ⟨p0A, p1A⟩ := box2 HA.out
  go_wp2_with (with_reducible refine wpList_store_last rfl 28 (.tmp 10) (.tmp 39) rfl dg0 #[.slice aL tL.canon.nodes.length cL, .int .i64 tL.canon.root] rfl rfl sizedg rfl (by simp [Value.oneCell']) ?_)
  clear p0A p1A eL hBL
  refine (exists_t DA.out v hv6 (few_of_dep ((DP.out.res v false).or (DP.out.res v true)))).mono ?_
  rintro e w8 ⟨hR, hb8⟩
  obtain ⟨aC, cC, tC, rfl, evC, tdC, -⟩ := hR
  have EC := Lib.hid evC
  obtain ⟨w9, bC, eC, hBC, -, hC, BC⟩ := laid w8 #[.slice aC tC.canon.nodes.length cC, .int .i64 tC.canon.root] 28
  have BB := hb8.trans (BC.mono hb8.size)
  replace HA := Lib.hid (heap_below BB HA.out)
  replace DA := Lib.hid (DA.out.below BB)
  replace HH := Lib.hid (heap_below BB HH.out)
  replace DH := Lib.hid (DH.out.below BB)
  replace HL := Lib.hid (heap_below BB HL.out)
  replace DL := Lib.hid (DL.out.below BB)
  replace BW := Lib.hid (BW.out.trans (BB.mono BW.out.size))
  have HC := Lib.hid hC; have DC := Lib.hid (tdC.below BC)
  clear hb8 hC BC BB tdC
  clear evC
  go_wp2_with (with_reducible refine wpList_store_last rfl 28 (.tmp 12) (.tmp 45) rfl dg0 #[.slice aC tC.canon.nodes.length cC, .int .i64 tC.canon.root] rfl rfl sizedg rfl (by simp [Value.oneCell']) ?_)
  clear eC hBC
  refine (var_t w9 v hv6).mono ?_
  rintro e w10 ⟨⟨aX, cX, rfl, tdX, -⟩, hb10⟩
  obtain ⟨w11, bX, eX, hBX, -, hX, BX⟩ := laid w10 #[.slice aX (litT v).canon.nodes.length cX, .int .i64 (litT v).canon.root] 28
  have BB := hb10.trans (BX.mono hb10.size)
  replace HA := Lib.hid (heap_below BB HA.out)
  replace DA := Lib.hid (DA.out.below BB)
  replace HH := Lib.hid (heap_below BB HH.out)
  replace DH := Lib.hid (DH.out.below BB)
  replace HL := Lib.hid (heap_below BB HL.out)
  replace DL := Lib.hid (DL.out.below BB)
  replace HC := Lib.hid (heap_below BB HC.out)
  replace DC := Lib.hid (DC.out.below BB)
  replace BW := Lib.hid (BW.out.trans (BB.mono BW.out.size))
  have HX := Lib.hid hX; have DX := Lib.hid (tdX.below BX)
  clear hb10 hX BX BB tdX
  obtain ⟨p0X, p1X⟩ := box2 HX.out
  obtain ⟨p0H, p1H⟩ := box2 HH.out
  obtain ⟨p0L, p1L⟩ := box2 HL.out
  go_wp2_with (with_reducible refine wpList_store_last rfl 28 (.tmp 14) (.tmp 50) rfl dg0 #[.slice aX (litT v).canon.nodes.length cX, .int .i64 (litT v).canon.root] rfl rfl sizedg rfl (by simp [Value.oneCell']) ?_)
  clear p0X p1X p0H p1H p0L p1L eX hBX
  refine (choose_t DX.out DH.out DL.out (few_of_tree DA.out.ok (back_ev EH.out EL.out) DA.out.len)).mono ?_
  rintro e w12 ⟨hR, hb12⟩
  obtain ⟨aM, cM, rfl, tdM, -⟩ := hR.known DA.out.ok (back_ev EH.out EL.out)
  obtain ⟨w13, bM, eM, hBM, -, hM, BM⟩ := laid w12 #[.slice aM tA.canon.nodes.length cM, .int .i64 tA.canon.root] 28
  have BB := hb12.trans (BM.mono hb12.size)
  replace HA := Lib.hid (heap_below BB HA.out)
  replace DA := Lib.hid (DA.out.below BB)
  replace HH := Lib.hid (heap_below BB HH.out)
  replace DH := Lib.hid (DH.out.below BB)
  replace HL := Lib.hid (heap_below BB HL.out)
  replace DL := Lib.hid (DL.out.below BB)
  replace HC := Lib.hid (heap_below BB HC.out)
  replace DC := Lib.hid (DC.out.below BB)
  replace HX := Lib.hid (heap_below BB HX.out)
  replace DX := Lib.hid (DX.out.below BB)
  replace BW := Lib.hid (BW.out.trans (BB.mono BW.out.size))
  have HM := Lib.hid hM; have DM := Lib.hid (tdM.below BM)
  clear hb12 hM BM BB tdM
  clear hR
  obtain ⟨p0H, p1H⟩ := box2 HH.out
  obtain ⟨p0L, p1L⟩ := box2 HL.out
  go_wp2_with (with_reducible refine wpList_store_last rfl 28 (.tmp 16) (.tmp 57) rfl dg0 #[.slice aM tA.canon.nodes.length cM, .int .i64 tA.canon.root] rfl rfl sizedg rfl (by simp [Value.oneCell']) ?_)
  clear p0H p1H p0L p1L eM hBM
  refine (or_t DH.out DL.out (few_of_tree DC.out.ok (fun x => by rw [EC.out x, EH.out x, EL.out x, Bool.or_comm]) DC.out.len)).mono ?_
  rintro e w14 ⟨hR, hb14⟩
  obtain ⟨aU, cU, rfl, tdU, -⟩ := hR.known DC.out.ok (fun x => by rw [EC.out x, EH.out x, EL.out x, Bool.or_comm])
  obtain ⟨w15, bU, eU, hBU, -, hU, BU⟩ := laid w14 #[.slice aU tC.canon.nodes.length cU, .int .i64 tC.canon.root] 28
  have BB := hb14.trans (BU.mono hb14.size)
  replace HA := Lib.hid (heap_below BB HA.out)
  replace DA := Lib.hid (DA.out.below BB)
  replace HH := Lib.hid (heap_below BB HH.out)
  replace DH := Lib.hid (DH.out.below BB)
  replace HL := Lib.hid (heap_below BB HL.out)
  replace DL := Lib.hid (DL.out.below BB)
  replace HC := Lib.hid (heap_below BB HC.out)
  replace DC := Lib.hid (DC.out.below BB)
  replace HX := Lib.hid (heap_below BB HX.out)
  replace DX := Lib.hid (DX.out.below BB)
  replace HM := Lib.hid (heap_below BB HM.out)
  replace DM := Lib.hid (DM.out.below BB)
  replace BW := Lib.hid (BW.out.trans (BB.mono BW.out.size))
  have HU := Lib.hid hU; have DU := Lib.hid (tdU.below BU)
  clear hb14 hU BU BB tdU
  clear hR
  obtain ⟨p0H, p1H⟩ := box2 HH.out
  go_wp2_with (with_reducible refine wpList_store_last rfl 28 (.tmp 18) (.tmp 63) rfl dg0 #[.slice aU tC.canon.nodes.length cU, .int .i64 tC.canon.root] rfl rfl sizedg rfl (by simp [Value.oneCell']) ?_)
  clear p0H p1H eU hBU
  refine (restrict_t DH.out v hv6 false (few_of_tree DH.out.ok (fun x => by rw [EH.out x, EH.out, upd_upd]) DH.out.len)).mono ?_
  rintro e w16 ⟨hR, hb16⟩
  obtain ⟨aS, cS, rfl, tdS, -⟩ := hR.known DH.out.ok (fun x => by rw [EH.out x, EH.out, upd_upd])
  obtain ⟨w17, bS, eS, hBS, -, hS, BS⟩ := laid w16 #[.slice aS tH.canon.nodes.length cS, .int .i64 tH.canon.root] 28
  have BB := hb16.trans (BS.mono hb16.size)
  replace HA := Lib.hid (heap_below BB HA.out)
  replace DA := Lib.hid (DA.out.below BB)
  replace HH := Lib.hid (heap_below BB HH.out)
  replace DH := Lib.hid (DH.out.below BB)
  replace HL := Lib.hid (heap_below BB HL.out)
  replace DL := Lib.hid (DL.out.below BB)
  replace HC := Lib.hid (heap_below BB HC.out)
  replace DC := Lib.hid (DC.out.below BB)
  replace HX := Lib.hid (heap_below BB HX.out)
  replace DX := Lib.hid (DX.out.below BB)
  replace HM := Lib.hid (heap_below BB HM.out)
  replace DM := Lib.hid (DM.out.below BB)
  replace HU := Lib.hid (heap_below BB HU.out)
  replace DU := Lib.hid (DU.out.below BB)
  replace BW := Lib.hid (BW.out.trans (BB.mono BW.out.size))
  have HS := Lib.hid hS; have DS := Lib.hid (tdS.below BS)
  clear hb16 hS BS BB tdS
  clear hR
  obtain ⟨p0M, p1M⟩ := box2 HM.out
  obtain ⟨p0A, p1A⟩ := box2 HA.out
  go_wp2_with (with_reducible refine wpList_store_last rfl 28 (.tmp 20) (.tmp 69) rfl dg0 #[.slice aS tH.canon.nodes.length cS, .int .i64 tH.canon.root] rfl rfl sizedg rfl (by simp [Value.oneCell']) ?_)
  clear p0M p1M p0A p1A eS hBS
  refine (same_k DM.out DA.out).mono ?_
  rintro e w18 ⟨rfl, hb18⟩
  replace HA := Lib.hid (heap_below hb18 HA.out)
  replace DA := Lib.hid (DA.out.below hb18)
  replace HH := Lib.hid (heap_below hb18 HH.out)
  replace DH := Lib.hid (DH.out.below hb18)
  replace HL := Lib.hid (heap_below hb18 HL.out)
  replace DL := Lib.hid (DL.out.below hb18)
  replace HC := Lib.hid (heap_below hb18 HC.out)
  replace DC := Lib.hid (DC.out.below hb18)
  replace HX := Lib.hid (heap_below hb18 HX.out)
  replace DX := Lib.hid (DX.out.below hb18)
  replace HM := Lib.hid (heap_below hb18 HM.out)
  replace DM := Lib.hid (DM.out.below hb18)
  replace HU := Lib.hid (heap_below hb18 HU.out)
  replace DU := Lib.hid (DU.out.below hb18)
  replace HS := Lib.hid (heap_below hb18 HS.out)
  replace DS := Lib.hid (DS.out.below hb18)
  replace BW := Lib.hid (BW.out.trans (hb18.mono BW.out.size))
  clear hb18
  obtain ⟨p0C, p1C⟩ := box2 HC.out
  obtain ⟨p0U, p1U⟩ := box2 HU.out
  go_wp2_with (fail)
  clear p0C p1C p0U p1U
  refine (same_k DC.out DU.out).mono ?_
  rintro e w19 ⟨rfl, hb19⟩
  replace HA := Lib.hid (heap_below hb19 HA.out)
  replace DA := Lib.hid (DA.out.below hb19)
  replace HH := Lib.hid (heap_below hb19 HH.out)
  replace DH := Lib.hid (DH.out.below hb19)
  replace HL := Lib.hid (heap_below hb19 HL.out)
  replace DL := Lib.hid (DL.out.below hb19)
  replace HC := Lib.hid (heap_below hb19 HC.out)
  replace DC := Lib.hid (DC.out.below hb19)
  replace HX := Lib.hid (heap_below hb19 HX.out)
  replace DX := Lib.hid (DX.out.below hb19)
  replace HM := Lib.hid (heap_below hb19 HM.out)
  replace DM := Lib.hid (DM.out.below hb19)
  replace HU := Lib.hid (heap_below hb19 HU.out)
  replace DU := Lib.hid (DU.out.below hb19)
  replace HS := Lib.hid (heap_below hb19 HS.out)
  replace DS := Lib.hid (DS.out.below hb19)
  replace BW := Lib.hid (BW.out.trans (hb19.mono BW.out.size))
  clear hb19
  obtain ⟨p0S, p1S⟩ := box2 HS.out
  obtain ⟨p0H, p1H⟩ := box2 HH.out
  go_wp2_with (fail)
  clear p0S p1S p0H p1H
  refine (same_k DS.out DH.out).mono ?_
  rintro e w20 ⟨rfl, hb20⟩
  replace HA := Lib.hid (heap_below hb20 HA.out)
  replace DA := Lib.hid (DA.out.below hb20)
  replace HH := Lib.hid (heap_below hb20 HH.out)
  replace DH := Lib.hid (DH.out.below hb20)
  replace HL := Lib.hid (heap_below hb20 HL.out)
  replace DL := Lib.hid (DL.out.below hb20)
  replace HC := Lib.hid (heap_below hb20 HC.out)
  replace DC := Lib.hid (DC.out.below hb20)
  replace HX := Lib.hid (heap_below hb20 HX.out)
  replace DX := Lib.hid (DX.out.below hb20)
  replace HM := Lib.hid (heap_below hb20 HM.out)
  replace DM := Lib.hid (DM.out.below hb20)
  replace HU := Lib.hid (heap_below hb20 HU.out)
  replace DU := Lib.hid (DU.out.below hb20)
  replace HS := Lib.hid (heap_below hb20 HS.out)
  replace DS := Lib.hid (DS.out.below hb20)
  replace BW := Lib.hid (BW.out.trans (hb20.mono BW.out.size))
  clear hb20
  go_wp2_with (fail)
  go_ret
  exact ⟨by rfl, BW.out⟩

end Go.Proofs.Ytohmibmakelclaa

namespace Go.Proofs.Ytohmibmakelclaa
set_option linter.unusedVariables false
set_option linter.unusedSimpArgs false
open Go.RowKit

/-- A set over n conditions looks at no other. -/
theorem T.ev_agree {n : Nat} : ∀ {t : T}, t.bel n → ∀ (x y : Nat → Bool), (∀ i, i < n → x i = y i) → t.ev x = t.ev y
  | .leaf _, _, _, _, _ => rfl
  | .node v l h, hb, x, y, hxy => by
    simp only [T.ev]
    rw [hxy v hb.1, T.ev_agree hb.2.1 x y hxy, T.ev_agree hb.2.2 x y hxy]

/-- Each choice of n conditions is a number's. -/
theorem cfg (n : Nat) (x : Nat → Bool) : ∃ j, j < 2 ^ n ∧ ∀ i, i < n → bits j i = x i := by
  induction n with
  | zero => exact ⟨0, by simp, fun i h => by omega⟩
  | succ n ih =>
    obtain ⟨j, hj, hx⟩ := ih
    cases hn : x n with
    | false =>
      refine ⟨j, Nat.lt_of_lt_of_le hj (Nat.pow_le_pow_right (by omega) (by omega)), fun i hi => ?_⟩
      rcases Nat.lt_or_eq_of_le (Nat.le_of_lt_succ hi) with h | rfl
      · exact hx i h
      · rw [hn]; exact Nat.testBit_lt_two_pow hj
    | true =>
      refine ⟨j ||| 2 ^ n, Nat.or_lt_two_pow (Nat.lt_of_lt_of_le hj (Nat.pow_le_pow_right (by omega) (by omega))) (Nat.pow_lt_pow_right (by omega) (by omega)), fun i hi => ?_⟩
      rw [bits_or]
      unfold upd
      split
      · rename_i h; subst h; exact hn.symm
      · exact hx i (by omega)

/-- The union of those of the first k configurations that lie in a. -/
def Uni (t a : T) (n k : Nat) : Prop := Dep n t.ev ∧ ∀ x, t.ev x = true ↔ ∃ j, j < k ∧ a.ev (bits j) = true ∧ ∀ i, i < n → x i = bits j i
/-- The configurations that agree with k in the first m conditions. -/
def One (t : T) (k m n : Nat) : Prop := Dep n t.ev ∧ ∀ x, t.ev x = true ↔ ∀ i, i < m → x i = bits k i

theorem Uni.zero (a : T) (n : Nat) : Uni (.leaf false) a n 0 := ⟨fun _ _ _ _ => rfl, fun x => by simp [T.ev]⟩
theorem Uni.out {t a : T} {n k : Nat} (h : Uni t a n k) (hk : a.ev (bits k) = false) : Uni t a n (k + 1) := ⟨h.1, fun x => by
  rw [h.2]
  constructor
  · rintro ⟨j, hj, h1⟩; exact ⟨j, by omega, h1⟩
  · rintro ⟨j, hj, h1, h2⟩
    refine ⟨j, ?_, h1, h2⟩
    have : j ≠ k := fun e => by rw [e, hk] at h1; cases h1
    omega⟩
theorem Uni.put {t a u o : T} {n k : Nat} (h : Uni t a n k) (hk : a.ev (bits k) = true) (ho : One o k n n) (hu : ∀ x, u.ev x = (o.ev x || t.ev x)) : Uni u a n (k + 1) := by
  constructor
  · rw [show u.ev = _ from funext hu]; exact ho.1.or h.1
  · intro x
    rw [hu, Bool.or_eq_true, ho.2, h.2]
    constructor
    · rintro (h1 | ⟨j, hj, h1⟩)
      · exact ⟨k, by omega, hk, h1⟩
      · exact ⟨j, by omega, h1⟩
    · rintro ⟨j, hj, h1, h2⟩
      rcases Nat.lt_or_eq_of_le (Nat.le_of_lt_succ hj) with hlt | rfl
      · exact .inr ⟨j, hlt, h1, h2⟩
      · exact .inl h2
theorem Uni.done {t a : T} {n : Nat} (h : Uni t a n (2 ^ n)) (ok : t.Ok) (oka : a.Ok) (hb : a.bel n) : t = a :=
  T.same ok oka (fun x => by
    have h1 := h.2 x
    obtain ⟨j, hj, hx⟩ := cfg n x
    rw [Bool.eq_iff_iff, h1]
    constructor
    · rintro ⟨i, -, hi, hxi⟩; rw [T.ev_agree hb x (bits i) hxi]; exact hi
    · intro ha; exact ⟨j, hj, by rw [T.ev_agree hb (bits j) x hx]; exact ha, fun i hi => (hx i hi).symm⟩)
theorem One.zero (k n : Nat) : One (.leaf true) k 0 n := ⟨fun _ _ _ _ => rfl, fun x => by simp [T.ev]⟩
theorem One.next {o u : T} {k m n : Nat} (h : One o k m n) (hm : m < n) (hu : ∀ x, u.ev x = (o.ev x && (litB m (bits k m)).ev x)) : One u k (m + 1) n := by
  constructor
  · rw [show u.ev = _ from funext hu]
    refine h.1.and ?_
    rw [show (litB m (bits k m)).ev = fun x => (x m == bits k m) from funext (litB_ev m _)]
    intro c i b hi
    simp only [upd]; rw [if_neg (by omega)]
  · intro x
    rw [hu, Bool.and_eq_true, h.2, litB_ev, beq_iff_eq]
    constructor
    · rintro ⟨h1, h2⟩ i hi
      rcases Nat.lt_or_eq_of_le (Nat.le_of_lt_succ hi) with hlt | rfl
      · exact h1 i hlt
      · exact h2
    · intro h1; exact ⟨fun i hi => h1 i (by omega), h1 m (by omega)⟩
theorem One.few {o : T} {k m n : Nat} (h : One o k m n) (hm : m < n) (hn : n ≤ 6) : Few (fun x => o.ev x && (litB m (bits k m)).ev x) := by
  refine few_of_dep ((h.1.and ?_).mono hn)
  rw [show (litB m (bits k m)).ev = fun x => (x m == bits k m) from funext (litB_ev m _)]
  intro c i b hi
  simp only [upd]; rw [if_neg (by omega)]
theorem Uni.few {o t a : T} {k n : Nat} (h : Uni t a n k) (ho : One o k n n) (hn : n ≤ 6) : Few (fun x => o.ev x || t.ev x) := few_of_dep ((ho.1.or h.1).mono hn)
/-- Two sets that hold the same configurations are the same. -/
theorem same_all {s t : T} {n : Nat} (oks : s.Ok) (okt : t.Ok) (hs : s.bel n) (ht : t.bel n) : s = t ↔ ∀ j, j < 2 ^ n → s.ev (bits j) = t.ev (bits j) := by
  constructor
  · rintro rfl _ _; rfl
  · intro h
    refine T.same oks okt (fun x => ?_)
    obtain ⟨j, hj, hx⟩ := cfg n x
    rw [← T.ev_agree hs (bits j) x hx, ← T.ev_agree ht (bits j) x hx]
    exact h j hj

/-- One cell of a box is stored into. -/
theorem put1 {w0 w : World} {b : Nat} {a0 a1 c1 : Value} {t : TypeId} (h : w.heap[b]? = some (.cells #[a0, a1] t (0, 0))) (hs : Below w0.heap.size w0 w) (hb : w0.heap.size ≤ b) :
    ∃ w', w.setCell ⟨b, 1, none⟩ c1 = w' ∧ w'.heap[b]? = some (.cells #[a0, c1] t (0, 0)) ∧ Below w0.heap.size w0 w' ∧ Step (fun k => k = b) w (fun k => k = b) w' := by
  refine ⟨_, rfl, ?_, hs.setCell hb _, (Step.refl (fun k => k = b) w).setCell (.inl rfl) _⟩
  rw [heap_setCell_same _ b 1 _ _ c1 h]; rfl

theorem heap_lt {w : World} {b : Nat} {o : Obj} (h : w.heap[b]? = some o) : b < w.heap.size := by rw [Array.getElem?_eq_some_iff] at h; exact h.1
theorem DgAt.newer {w w' : World} {M M' : Nat → Prop} {v : Value} {D : Dg} (h : DgAt w M v D) (hb : Below w.heap.size w w') (hM : ∀ k, M' k → M k ∨ w.heap.size ≤ k) : DgAt w' M' v D :=
  h.step ((Step.of_below hb M).to (fun _ h => h) hM)

/-- A diagram in a box: the box, and the diagram, apart from M. -/
structure In (w : World) (M : Nat → Prop) (b : Nat) (a : Option Addr) (c : Nat) (t : T) : Prop where
  box : w.heap[b]? = some (.cells #[.slice a t.canon.nodes.length c, .int .i64 t.canon.root] 28 (0, 0))
  at' : DgAt w M (dval a c t) t.canon
  ok : t.Ok
  len : t.canon.nodes.length ≤ 4096
theorem In.td {w : World} {M : Nat → Prop} {b : Nat} {a : Option Addr} {c : Nat} {t : T} (h : In w M b a c t) : TD w (dval a c t) t := ⟨h.at'.wide (fun k hk => hk.elim), h.ok, h.len⟩
theorem In.fresh {w w' : World} {M M' : Nat → Prop} {b : Nat} {a : Option Addr} {c : Nat} {t : T} (h : In w M b a c t) (hb : Below w.heap.size w w') (hM : ∀ k, M' k → M k ∨ w.heap.size ≤ k) : In w' M' b a c t :=
  ⟨heap_below hb h.box, h.at'.newer hb hM, h.ok, h.len⟩
theorem In.below {w w' : World} {M : Nat → Prop} {b : Nat} {a : Option Addr} {c : Nat} {t : T} (h : In w M b a c t) (hb : Below w.heap.size w w') : In w' M b a c t := h.fresh hb (fun k hk => .inl hk)
theorem In.put {w w' : World} {M : Nat → Prop} {b q : Nat} {a : Option Addr} {c : Nat} {t : T} (h : In w M b a c t) (hs : Step (fun k => k = q) w (fun k => k = q) w') (hq : M q) (hb : b ≠ q) : In w' M b a c t :=
  ⟨(hs.block b (heap_lt h.box) hb).trans h.box, h.at'.step (hs.wide (fun k hk => by rw [hk]; exact hq)), h.ok, h.len⟩
theorem In.wide {w : World} {M M' : Nat → Prop} {b : Nat} {a : Option Addr} {c : Nat} {t : T} (h : In w M b a c t) (hM : ∀ k, M' k → M k) : In w M' b a c t := ⟨h.box, h.at'.wide hM, h.ok, h.len⟩

end Go.Proofs.Ytohmibmakelclaa

namespace Go.Proofs.Ytohmibmakelclaa
set_option linter.unusedVariables false
set_option linter.unusedSimpArgs false
open Go.RowKit

theorem with_G {P : Program} {md : Region.Mode} {ops : Array Oper} {Q : Exit → Act → World → Prop} {S : World → Prop} {fuel : Nat} {listed : Array Bool} {a : Act} {w : World}
    (h : ∀ G : Nat → Array Bool → Act → World → Prop, (∀ f l a w, G f l a w = wpAnyH P md ops Q S f l a w) → G fuel listed a w) : wpAnyH P md ops Q S fuel listed a w :=
  h _ (fun _ _ _ _ => rfl)

theorem shl_u64 (k : Nat) (hk : k ≤ 63) : IntKind.u64.wrap (2 ^ k) = ((2 ^ k : Nat) : Int) := by
  have h : 2 ^ k ≤ 2 ^ 63 := Nat.pow_le_pow_right (by omega) hk
  have e : ((2 : Int) ^ k) = ((2 ^ k : Nat) : Int) := by push_cast; rfl
  rw [e, IntKind.wrap_u64]
  have h2 : (2 : Nat) ^ 63 = 9223372036854775808 := by decide
  rw [h2] at h
  generalize 2 ^ k = P at *
  omega
theorem limbs_small80 {n : Nat} (h : n < 1208925819614629174706176) : (limbs n).length ≤ 3 := limbs_len 3 n (Nat.lt_trans h (by decide))
section
variable {w : World}
theorem count_r {va : Value} {ta : T} (ha : TD w va ta) (n : Nat) (hn : n ≤ 64) (hb : ta.bel n) {m : Nat} (hm : ta.count n = m) : Calls Try.prog 28 #[va, .int .i64 (n : Int)] w fun e w' => (∃ (a : Option Addr) (l c : Nat), e = .returned (.tuple #[.slice a l c, .int .i64 0]) ∧ NatAt w' NoB (.slice a l c) m) ∧ Below w.heap.size w w' := by
  refine (count_t ha n hn hb).mono ?_
  rintro e w' ⟨⟨a, c, rfl, hN⟩, hbl⟩
  subst hm
  exact ⟨⟨_, _, _, rfl, hN⟩, hbl⟩
theorem count_r1 {va : Value} {ta : T} (ha : TD w va ta) (n : Nat) (hn : n ≤ 63) (hb : ta.bel (n + 1)) {m : Nat} (hm : ta.count (n + 1) = m) : Calls Try.prog 28 #[va, .int .i64 ((n : Int) + 1)] w fun e w' => (∃ (a : Option Addr) (l c : Nat), e = .returned (.tuple #[.slice a l c, .int .i64 0]) ∧ NatAt w' NoB (.slice a l c) m) ∧ Below w.heap.size w w' := by
  have h := count_r ha (n + 1) (by omega) hb hm
  rwa [show (((n + 1 : Nat) : Int)) = (n : Int) + 1 from by push_cast; rfl] at h
theorem add_r {va vb : Value} {a b s : Nat} (ha : NatAt w NoB va a) (hb : NatAt w NoB vb b) (hs : a + b = s) (hl : a + b < 1208925819614629174706176) : Calls Try.prog 36 #[va, vb] w fun e w' => (∃ (a : Option Addr) (l c : Nat), e = .returned (.tuple #[.slice a l c, .int .i64 0]) ∧ NatAt w' NoB (.slice a l c) s) ∧ Below w.heap.size w w' := by
  have l1 := limbs_small80 (n := a) (by omega); have l2 := limbs_small80 (n := b) (by omega); have l3 := limbs_small80 hl
  refine (add_nat w va vb a b ha hb (by omega) (by omega) (by omega)).mono ?_
  rintro e w' ⟨r, rfl, hM, hbl⟩
  subst hs
  have hN := hM NoB (fun b h => h.elim)
  obtain ⟨a', c', rfl⟩ := hN.shape
  exact ⟨⟨_, _, _, rfl, hN⟩, hbl⟩
theorem of_r (w : World) (n : Nat) (hn : n < 18446744073709551616) : Calls Try.prog 38 #[.int .u64 (n : Int)] w fun e w' => (∃ (a : Option Addr) (l c : Nat), e = .returned (.slice a l c) ∧ NatAt w' NoB (.slice a l c) n) ∧ Below w.heap.size w w' := by
  refine (of_nat w n hn).mono ?_
  rintro e w' ⟨r, rfl, hM, hbl⟩
  have hN := hM NoB (fun b h => h.elim)
  obtain ⟨a', c', rfl⟩ := hN.shape
  exact ⟨⟨_, _, _, rfl, hN⟩, hbl⟩
theorem compare_r {va vb : Value} {n : Nat} (ha : NatAt w NoB va n) (hb : NatAt w NoB vb n) (hl : n < 1208925819614629174706176) : Calls Try.prog 37 #[va, vb] w fun e w' => e = .returned (.int .i64 0) ∧ Below w.heap.size w w' :=
  compare_same w va vb n ha hb (by have := limbs_small80 hl; omega)
end

set_option maxRecDepth 100000 in
set_option maxHeartbeats 16000000 in
theorem countsLaw (w : World) (v u : Value) (xs ys : List Int) (N N1 : Nat) (hs : SetAt w v xs N) (ht : SetAt w u ys N1) (q : Int) (hq : 0 ≤ q ∧ q ≤ 255) :
    Calls Try.prog 10 #[v, u, .int .u8 q] w fun e w' => e = .returned (.bool true) ∧ Below w.heap.size w w' := by
  obtain ⟨a, c, rfl⟩ := hs.shape
  obtain ⟨a1, c1, rfl⟩ := ht.shape
  obtain ⟨w0, bs, e0, hb0, z0, h0, B0⟩ := laid w #[.slice a xs.length c, .int .u8 (N : Int)] 24
  obtain ⟨w1, bt, e1, hb1, z1, h1, B1⟩ := laid w0 #[.slice a1 ys.length c1, .int .u8 (N1 : Int)] 24
  obtain rfl : bt = bs + 1 := by omega
  replace z1 : w1.heap.size = bs + 2 := by omega
  clear hb1
  have BW : Hid (Below w.heap.size w w1) := B0.trans (B1.mono B0.size)
  have KS : Hid (w1.heap[bs]? = some (.cells #[.slice a xs.length c, .int .u8 (N : Int)] 24 (0, 0))) := heap_below B1 h0
  have KT : Hid (w1.heap[bs + 1]? = some (.cells #[.slice a1 ys.length c1, .int .u8 (N1 : Int)] 24 (0, 0))) := h1
  have HS : Hid (SetAt w (.agg #[.slice a xs.length c, .int .u8 (N : Int)]) xs N) := hs
  have HT : Hid (SetAt w (.agg #[.slice a1 ys.length c1, .int .u8 (N1 : Int)]) ys N1) := ht
  have HB0 := Lib.hid hb0
  clear h0 h1 B0 B1 hs ht
  go_enter Try.func10, Try.ntmps10
  go_wp2_with (fail)
  refine (sanity_any w1).mono ?_
  rintro e w2 ⟨rfl, hb2⟩
  replace KS := Lib.hid (heap_below hb2 KS.out); replace KT := Lib.hid (heap_below hb2 KT.out)
  replace BW := Lib.hid (BW.out.trans (hb2.mono BW.out.size))
  clear hb2
  go_wp2_with (fail)
  have BD : Below w2.heap.size w2 w2.drew := (Below.refl _ w2).drew
  replace BW := Lib.hid (BW.out.drew)
  obtain ⟨u, hu⟩ : ∃ u, w2.drew = u := ⟨_, rfl⟩
  replace KS : Hid (u.heap[bs]? = some (.cells #[.slice a xs.length c, .int .u8 (N : Int)] 24 (0, 0))) := by rw [← hu]; exact KS.out
  replace KT : Hid (u.heap[bs + 1]? = some (.cells #[.slice a1 ys.length c1, .int .u8 (N1 : Int)] 24 (0, 0))) := by rw [← hu]; exact KT.out
  rw [hu] at BW
  clear BD
  refine Code.wp_mono (Q := fun e a' w' => e = .normal ∧ ∃ (u : World) (aA : Option Addr) (cA : Nat) (tA : T) (aG : Option Addr) (cG : Nat) (tG : T) (bA : Nat) (bG : Nat), a' = ⟨((.agg #[.slice a xs.length c, .int .u8 (N : Int)]) :: (.agg #[.slice a1 ys.length c1, .int .u8 (N1 : Int)]) :: .int .u8 q :: (.pointer (some ⟨bs, 0, none⟩)) :: (.pointer (some ⟨bs + 1, 0, none⟩)) :: undef :: .bool false :: .bool true :: (.pointer (some ⟨bA, 0, none⟩)) :: (.pointer (some ⟨bG, 0, none⟩)) :: undef :: undef :: undef :: undef :: undef :: undef :: undef :: undef :: undef :: undef :: undef :: undef :: undef :: undef :: undef :: undef :: undef :: undef :: undef :: undef :: undef :: undef :: undef :: undef :: undef :: undef :: undef :: .bool true :: (.agg #[.slice a xs.length c, .int .u8 (N : Int)]) :: (.agg #[.slice aA tA.canon.nodes.length cA, .int .i64 tA.canon.root]) :: (.agg #[.slice a1 ys.length c1, .int .u8 (N1 : Int)]) :: (.agg #[.slice aG tG.canon.nodes.length cG, .int .i64 tG.canon.root]) :: undef :: undef :: undef :: undef :: undef :: undef :: undef :: undef :: undef :: undef :: undef :: undef :: undef :: undef :: undef :: undef :: undef :: undef :: undef :: undef :: undef :: undef :: undef :: undef :: undef :: undef :: undef :: undef :: undef :: undef :: undef :: undef :: undef :: undef :: undef :: undef :: undef :: undef :: undef :: undef :: undef :: undef :: undef :: undef :: undef :: undef :: undef :: undef :: undef :: undef :: undef :: undef :: undef :: undef :: undef :: undef :: undef :: undef :: undef :: undef :: undef :: undef :: undef :: undef :: undef :: undef :: undef :: undef :: undef :: undef :: undef :: undef :: undef :: undef :: undef :: undef :: undef :: undef :: undef :: undef :: undef :: undef :: undef :: undef :: undef :: undef :: undef :: undef :: undef :: undef :: undef :: undef :: undef :: undef :: undef :: undef :: undef :: undef :: undef :: undef :: undef :: undef :: undef :: undef :: undef :: undef :: undef :: undef :: undef :: undef :: undef :: undef :: undef :: undef :: undef :: undef :: undef :: undef :: undef :: undef :: undef :: undef :: undef :: undef :: undef :: undef :: []).toArray, []⟩ ∧ w' = u ∧ Hid (Below w.heap.size w u) ∧ Hid (u.heap[bs]? = some (.cells #[.slice a xs.length c, .int .u8 (N : Int)] 24 (0, 0))) ∧ Hid (u.heap[bs + 1]? = some (.cells #[.slice a1 ys.length c1, .int .u8 (N1 : Int)] 24 (0, 0))) ∧ Hid (In u NoB bA aA cA tA) ∧ Hid (In u NoB bG aG cG tG) ∧ Hid (tA.bel (N % 7)) ∧ Hid (tG.bel (N1 % 7))) ?_ ?_
  rotate_left
  focus
    refine wp_region_held_drew (S := fun w' => w'.cell? ⟨bs, 0, none⟩ = some (.slice a xs.length c) ∧ w'.cell? ⟨bs, 1, none⟩ = some (.int .u8 (N : Int)) ∧ w'.cell? ⟨bs + 1, 0, none⟩ = some (.slice a1 ys.length c1) ∧ w'.cell? ⟨bs + 1, 1, none⟩ = some (.int .u8 (N1 : Int))) (by kernel_rfl) (by rw [hu]; exact ⟨(box2v KS.out).1, (box2v KS.out).2, (box2v KT.out).1, (box2v KT.out).2⟩) (fun hS => ?_)
    rw [hu] at hS ⊢
    clear hu
    refine wpAnyH_take (i := 0) (v := (.agg #[.slice a xs.length c, .int .u8 (N : Int)])) rfl (by kernel_rfl) (by kernel_rfl) (by kernel_rfl) (fun _ _ _ h => nomatch h.1) (Or.inl ⟨by rfl, ?_⟩) hS ?_
    · intro w hSw
      go_split_ands
      go_simp
    try simp only [Act.put, List.getElem_toArray, List.getElem_cons_zero, List.getElem_cons_succ, List.setIfInBounds_toArray, List.set_cons_zero, List.set_cons_succ]
    refine wpAnyH_take (i := 2) (v := (.agg #[.slice a1 ys.length c1, .int .u8 (N1 : Int)])) rfl (by kernel_rfl) (by kernel_rfl) (by kernel_rfl) (fun _ _ _ h => nomatch h.1) (Or.inl ⟨by rfl, ?_⟩) hS ?_
    · intro w hSw
      go_split_ands
      go_simp
    try simp only [Act.put, List.getElem_toArray, List.getElem_cons_zero, List.getElem_cons_succ, List.setIfInBounds_toArray, List.set_cons_zero, List.set_cons_succ]
    refine with_G (fun G hG => ?_)
    have st2_01 : Hid (∀ (u : World) (aA : Option Addr) (cA : Nat) (tA : T) (aG : Option Addr) (cG : Nat) (tG : T) (bA : Nat) (bG : Nat), Hid (Below w.heap.size w u) → Hid (u.heap[bs]? = some (.cells #[.slice a xs.length c, .int .u8 (N : Int)] 24 (0, 0))) → Hid (u.heap[bs + 1]? = some (.cells #[.slice a1 ys.length c1, .int .u8 (N1 : Int)] 24 (0, 0))) → Hid (DgAt u (fun q => q = bA ∨ q = bG) (.agg #[.slice aA tA.canon.nodes.length cA, .int .i64 tA.canon.root]) tA.canon) → Hid (tA.Ok) → Hid (tA.bel (N % 7)) → Hid (DgAt u (fun q => q = bA ∨ q = bG) (.agg #[.slice aG tG.canon.nodes.length cG, .int .i64 tG.canon.root]) tG.canon) → Hid (tG.Ok) → Hid (tG.bel (N1 % 7)) → Hid (u.heap[bA]? = some (.cells dg0 28 (0, 0))) → Hid (bs + 2 ≤ bA) → Hid (u.heap[bG]? = some (.cells dg0 28 (0, 0))) → Hid (bs + 2 ≤ bG) → Hid (bA ≠ bG) → G 2 #[true, true, true, true, true, true, false, false] ⟨((.agg #[.slice a xs.length c, .int .u8 (N : Int)]) :: (.agg #[.slice a1 ys.length c1, .int .u8 (N1 : Int)]) :: .int .u8 q :: (.pointer (some ⟨bs, 0, none⟩)) :: (.pointer (some ⟨bs + 1, 0, none⟩)) :: undef :: .bool false :: .bool true :: (.pointer (some ⟨bA, 0, none⟩)) :: (.pointer (some ⟨bG, 0, none⟩)) :: undef :: undef :: undef :: undef :: undef :: undef :: undef :: undef :: undef :: undef :: undef :: undef :: undef :: undef :: undef :: undef :: undef :: undef :: undef :: undef :: undef :: undef :: undef :: undef :: undef :: undef :: undef :: .bool true :: (.agg #[.slice a xs.length c, .int .u8 (N : Int)]) :: (.agg #[.slice aA tA.canon.nodes.length cA, .int .i64 tA.canon.root]) :: (.agg #[.slice a1 ys.length c1, .int .u8 (N1 : Int)]) :: (.agg #[.slice aG tG.canon.nodes.length cG, .int .i64 tG.canon.root]) :: undef :: undef :: undef :: undef :: undef :: undef :: undef :: undef :: undef :: undef :: undef :: undef :: undef :: undef :: undef :: undef :: undef :: undef :: undef :: undef :: undef :: undef :: undef :: undef :: undef :: undef :: undef :: undef :: undef :: undef :: undef :: undef :: undef :: undef :: undef :: undef :: undef :: undef :: undef :: undef :: undef :: undef :: undef :: undef :: undef :: undef :: undef :: undef :: undef :: undef :: undef :: undef :: undef :: undef :: undef :: undef :: undef :: undef :: undef :: undef :: undef :: undef :: undef :: undef :: undef :: undef :: undef :: undef :: undef :: undef :: undef :: undef :: undef :: undef :: undef :: undef :: undef :: undef :: undef :: undef :: undef :: undef :: undef :: undef :: undef :: undef :: undef :: undef :: undef :: undef :: undef :: undef :: undef :: undef :: undef :: undef :: undef :: undef :: undef :: undef :: undef :: undef :: undef :: undef :: undef :: undef :: undef :: undef :: undef :: undef :: undef :: undef :: undef :: undef :: undef :: undef :: undef :: undef :: undef :: undef :: undef :: undef :: undef :: undef :: undef :: undef :: []).toArray, []⟩ u) := by
      intro u aA cA tA aG cG tG bA bG BW KS KT DA OKA BLA DG OKG BLG XA NA XG NG NEAG
      rw [hG]
      have hS : u.cell? ⟨bs, 0, none⟩ = some (.slice a xs.length c) ∧ u.cell? ⟨bs, 1, none⟩ = some (.int .u8 (N : Int)) ∧ u.cell? ⟨bs + 1, 0, none⟩ = some (.slice a1 ys.length c1) ∧ u.cell? ⟨bs + 1, 1, none⟩ = some (.int .u8 (N1 : Int)) := ⟨(box2v KS.out).1, (box2v KS.out).2, (box2v KT.out).1, (box2v KT.out).2⟩
      obtain ⟨s0, s1⟩ := box2 (r := 0) (S := .slice none 0 0) XA.out
      have sf := frozen_box XA.out
      obtain ⟨uA, e8, P8, Q8, S8⟩ := put2 (w0 := w) (c0 := .slice aA tA.canon.nodes.length cA) (c1 := .int .i64 tA.canon.root) XA.out BW.out (by have := HB0.out; have := NA.out; omega)
      replace BW := Lib.hid Q8
      replace KS : Hid (uA.heap[bs]? = some (.cells #[.slice a xs.length c, .int .u8 (N : Int)] 24 (0, 0))) := (S8.block _ (heap_lt KS.out) (by have := NA.out; omega)).trans KS.out
      replace KT : Hid (uA.heap[bs + 1]? = some (.cells #[.slice a1 ys.length c1, .int .u8 (N1 : Int)] 24 (0, 0))) := (S8.block _ (heap_lt KT.out) (by have := NA.out; omega)).trans KT.out
      have XA' := Lib.hid P8
      replace DA := Lib.hid (DA.out.step (S8.wide (fun q hq => by rw [hq]; exact .inl rfl)))
      replace XG := Lib.hid ((S8.block _ (heap_lt XG.out) (Ne.symm NEAG.out)).trans XG.out)
      replace DG := Lib.hid (DG.out.step (S8.wide (fun q hq => by rw [hq]; exact .inl rfl)))
      clear P8 Q8 S8
      refine wpAnyH_ready (rs := [6]) (by kernel_rfl) (by simp) ?_
      refine AllReadyH.cons rfl (fun K hK => ?_) AllReadyH.nil
      try simp only [Act.put, List.getElem_toArray, List.getElem_cons_zero, List.getElem_cons_succ, List.setIfInBounds_toArray, List.set_cons_zero, List.set_cons_succ]
      go_simp
      refine hK.out _ _ (⟨(box2v KS.out).1, (box2v KS.out).2, (box2v KT.out).1, (box2v KT.out).2⟩) (fun hS => ?_)
      clear hK K s0 s1 sf e8
      try simp only [Act.put, List.getElem_toArray, List.getElem_cons_zero, List.getElem_cons_succ, List.setIfInBounds_toArray, List.set_cons_zero, List.set_cons_succ]
      obtain ⟨s0, s1⟩ := box2 (r := 0) (S := .slice none 0 0) XG.out
      have sf := frozen_box XG.out
      obtain ⟨uG, e8, P8, Q8, S8⟩ := put2 (w0 := w) (c0 := .slice aG tG.canon.nodes.length cG) (c1 := .int .i64 tG.canon.root) XG.out BW.out (by have := HB0.out; have := NG.out; omega)
      replace BW := Lib.hid Q8
      replace KS : Hid (uG.heap[bs]? = some (.cells #[.slice a xs.length c, .int .u8 (N : Int)] 24 (0, 0))) := (S8.block _ (heap_lt KS.out) (by have := NG.out; omega)).trans KS.out
      replace KT : Hid (uG.heap[bs + 1]? = some (.cells #[.slice a1 ys.length c1, .int .u8 (N1 : Int)] 24 (0, 0))) := (S8.block _ (heap_lt KT.out) (by have := NG.out; omega)).trans KT.out
      replace XA' := Lib.hid ((S8.block _ (heap_lt XA'.out) NEAG.out).trans XA'.out)
      replace DA := Lib.hid (DA.out.step (S8.wide (fun q hq => by rw [hq]; exact .inr rfl)))
      have XG' := Lib.hid P8
      replace DG := Lib.hid (DG.out.step (S8.wide (fun q hq => by rw [hq]; exact .inr rfl)))
      clear P8 Q8 S8
      refine wpAnyH_ready (rs := [7]) (by kernel_rfl) (by simp) ?_
      refine AllReadyH.cons rfl (fun K hK => ?_) AllReadyH.nil
      try simp only [Act.put, List.getElem_toArray, List.getElem_cons_zero, List.getElem_cons_succ, List.setIfInBounds_toArray, List.set_cons_zero, List.set_cons_succ]
      go_simp
      refine hK.out _ _ (⟨(box2v KS.out).1, (box2v KS.out).2, (box2v KT.out).1, (box2v KT.out).2⟩) (fun hS => ?_)
      clear hK K s0 s1 sf e8
      try simp only [Act.put, List.getElem_toArray, List.getElem_cons_zero, List.getElem_cons_succ, List.setIfInBounds_toArray, List.set_cons_zero, List.set_cons_succ]
      refine wpAnyH_done (by kernel_rfl) ?_ _
      try simp only [Act.put, List.getElem_toArray, List.getElem_cons_zero, List.getElem_cons_succ, List.setIfInBounds_toArray, List.set_cons_zero, List.set_cons_succ]
      refine ⟨by first | trivial | rfl, uG, aA, cA, tA, aG, cG, tG, bA, bG, rfl, rfl, BW, KS, KT, ⟨XA'.out, DA.out.wide (fun q hq => hq.elim), OKA.out, Nat.le_trans (OKA.out.small BLA.out (by omega)) (by decide)⟩, ⟨XG'.out, DG.out.wide (fun q hq => hq.elim), OKG.out, Nat.le_trans (OKG.out.small BLG.out (by omega)) (by decide)⟩, BLA, BLG⟩
    have st2_0 : Hid (∀ (u : World) (aA : Option Addr) (cA : Nat) (tA : T) (aG : Option Addr) (cG : Nat) (tG : T) (bA : Nat), Hid (Below w.heap.size w u) → Hid (u.heap[bs]? = some (.cells #[.slice a xs.length c, .int .u8 (N : Int)] 24 (0, 0))) → Hid (u.heap[bs + 1]? = some (.cells #[.slice a1 ys.length c1, .int .u8 (N1 : Int)] 24 (0, 0))) → Hid (DgAt u (fun q => q = bA) (.agg #[.slice aA tA.canon.nodes.length cA, .int .i64 tA.canon.root]) tA.canon) → Hid (tA.Ok) → Hid (tA.bel (N % 7)) → Hid (DgAt u (fun q => q = bA) (.agg #[.slice aG tG.canon.nodes.length cG, .int .i64 tG.canon.root]) tG.canon) → Hid (tG.Ok) → Hid (tG.bel (N1 % 7)) → Hid (u.heap[bA]? = some (.cells dg0 28 (0, 0))) → Hid (bs + 2 ≤ bA) → G 3 #[true, true, true, true, true, false, false, false] ⟨((.agg #[.slice a xs.length c, .int .u8 (N : Int)]) :: (.agg #[.slice a1 ys.length c1, .int .u8 (N1 : Int)]) :: .int .u8 q :: (.pointer (some ⟨bs, 0, none⟩)) :: (.pointer (some ⟨bs + 1, 0, none⟩)) :: undef :: .bool false :: .bool true :: (.pointer (some ⟨bA, 0, none⟩)) :: undef :: undef :: undef :: undef :: undef :: undef :: undef :: undef :: undef :: undef :: undef :: undef :: undef :: undef :: undef :: undef :: undef :: undef :: undef :: undef :: undef :: undef :: undef :: undef :: undef :: undef :: undef :: undef :: .bool true :: (.agg #[.slice a xs.length c, .int .u8 (N : Int)]) :: (.agg #[.slice aA tA.canon.nodes.length cA, .int .i64 tA.canon.root]) :: (.agg #[.slice a1 ys.length c1, .int .u8 (N1 : Int)]) :: (.agg #[.slice aG tG.canon.nodes.length cG, .int .i64 tG.canon.root]) :: undef :: undef :: undef :: undef :: undef :: undef :: undef :: undef :: undef :: undef :: undef :: undef :: undef :: undef :: undef :: undef :: undef :: undef :: undef :: undef :: undef :: undef :: undef :: undef :: undef :: undef :: undef :: undef :: undef :: undef :: undef :: undef :: undef :: undef :: undef :: undef :: undef :: undef :: undef :: undef :: undef :: undef :: undef :: undef :: undef :: undef :: undef :: undef :: undef :: undef :: undef :: undef :: undef :: undef :: undef :: undef :: undef :: undef :: undef :: undef :: undef :: undef :: undef :: undef :: undef :: undef :: undef :: undef :: undef :: undef :: undef :: undef :: undef :: undef :: undef :: undef :: undef :: undef :: undef :: undef :: undef :: undef :: undef :: undef :: undef :: undef :: undef :: undef :: undef :: undef :: undef :: undef :: undef :: undef :: undef :: undef :: undef :: undef :: undef :: undef :: undef :: undef :: undef :: undef :: undef :: undef :: undef :: undef :: undef :: undef :: undef :: undef :: undef :: undef :: undef :: undef :: undef :: undef :: undef :: undef :: undef :: undef :: undef :: undef :: undef :: undef :: []).toArray, []⟩ u) := by
      intro u aA cA tA aG cG tG bA BW KS KT DA OKA BLA DG OKG BLG XA NA
      rw [hG]
      have hS : u.cell? ⟨bs, 0, none⟩ = some (.slice a xs.length c) ∧ u.cell? ⟨bs, 1, none⟩ = some (.int .u8 (N : Int)) ∧ u.cell? ⟨bs + 1, 0, none⟩ = some (.slice a1 ys.length c1) ∧ u.cell? ⟨bs + 1, 1, none⟩ = some (.int .u8 (N1 : Int)) := ⟨(box2v KS.out).1, (box2v KS.out).2, (box2v KT.out).1, (box2v KT.out).2⟩
      refine wpAnyH_ready (rs := [5]) (by kernel_rfl) (by simp) ?_
      refine AllReadyH.cons rfl (fun K hK => ?_) (AllReadyH.nil)
      · try simp only [Act.put, List.getElem_toArray, List.getElem_cons_zero, List.getElem_cons_succ, List.setIfInBounds_toArray, List.set_cons_zero, List.set_cons_succ]
        obtain ⟨u1, bG, eX, hBX, zX, hX, BX⟩ := laid u dg0 28
        have NG : Hid (bs + 2 ≤ bG) := by show _ ≤ _; have := heap_lt KT.out; omega
        have NEAG : Hid (bA ≠ bG) := by have h := heap_lt XA.out; show _ ≠ _; omega
        replace DA : Hid (DgAt u1 (fun q => q = bA ∨ q = bG) (.agg #[.slice aA tA.canon.nodes.length cA, .int .i64 tA.canon.root]) tA.canon) := DA.out.newer BX (fun q hq => by rcases hq with rfl | rfl <;> first | exact .inr (by omega) | (left; simp) )
        replace DG : Hid (DgAt u1 (fun q => q = bA ∨ q = bG) (.agg #[.slice aG tG.canon.nodes.length cG, .int .i64 tG.canon.root]) tG.canon) := DG.out.newer BX (fun q hq => by rcases hq with rfl | rfl <;> first | exact .inr (by omega) | (left; simp) )
        replace XA := Lib.hid (heap_below BX XA.out)
        replace KS : Hid (u1.heap[bs]? = some (.cells #[.slice a xs.length c, .int .u8 (N : Int)] 24 (0, 0))) := heap_below BX KS.out
        replace KT : Hid (u1.heap[bs + 1]? = some (.cells #[.slice a1 ys.length c1, .int .u8 (N1 : Int)] 24 (0, 0))) := heap_below BX KT.out
        have XG := Lib.hid hX
        replace BW := Lib.hid (BW.out.trans (BX.mono BW.out.size))
        go_simp
        clear hX BX eX hBX zX
        refine hK.out _ _ (⟨(box2v KS.out).1, (box2v KS.out).2, (box2v KT.out).1, (box2v KT.out).2⟩) (fun hS => ?_)
        clear hK K
        try simp only [Act.put, List.getElem_toArray, List.getElem_cons_zero, List.getElem_cons_succ, List.setIfInBounds_toArray, List.set_cons_zero, List.set_cons_succ]
        rw [← hG]
        exact st2_01.out u1 aA cA tA aG cG tG bA bG BW KS KT DA OKA BLA DG OKG BLG XA NA XG NG NEAG
    have st2_1 : Hid (∀ (u : World) (aA : Option Addr) (cA : Nat) (tA : T) (aG : Option Addr) (cG : Nat) (tG : T) (bG : Nat), Hid (Below w.heap.size w u) → Hid (u.heap[bs]? = some (.cells #[.slice a xs.length c, .int .u8 (N : Int)] 24 (0, 0))) → Hid (u.heap[bs + 1]? = some (.cells #[.slice a1 ys.length c1, .int .u8 (N1 : Int)] 24 (0, 0))) → Hid (DgAt u (fun q => q = bG) (.agg #[.slice aA tA.canon.nodes.length cA, .int .i64 tA.canon.root]) tA.canon) → Hid (tA.Ok) → Hid (tA.bel (N % 7)) → Hid (DgAt u (fun q => q = bG) (.agg #[.slice aG tG.canon.nodes.length cG, .int .i64 tG.canon.root]) tG.canon) → Hid (tG.Ok) → Hid (tG.bel (N1 % 7)) → Hid (u.heap[bG]? = some (.cells dg0 28 (0, 0))) → Hid (bs + 2 ≤ bG) → G 3 #[true, true, true, true, false, true, false, false] ⟨((.agg #[.slice a xs.length c, .int .u8 (N : Int)]) :: (.agg #[.slice a1 ys.length c1, .int .u8 (N1 : Int)]) :: .int .u8 q :: (.pointer (some ⟨bs, 0, none⟩)) :: (.pointer (some ⟨bs + 1, 0, none⟩)) :: undef :: .bool false :: .bool true :: undef :: (.pointer (some ⟨bG, 0, none⟩)) :: undef :: undef :: undef :: undef :: undef :: undef :: undef :: undef :: undef :: undef :: undef :: undef :: undef :: undef :: undef :: undef :: undef :: undef :: undef :: undef :: undef :: undef :: undef :: undef :: undef :: undef :: undef :: .bool true :: (.agg #[.slice a xs.length c, .int .u8 (N : Int)]) :: (.agg #[.slice aA tA.canon.nodes.length cA, .int .i64 tA.canon.root]) :: (.agg #[.slice a1 ys.length c1, .int .u8 (N1 : Int)]) :: (.agg #[.slice aG tG.canon.nodes.length cG, .int .i64 tG.canon.root]) :: undef :: undef :: undef :: undef :: undef :: undef :: undef :: undef :: undef :: undef :: undef :: undef :: undef :: undef :: undef :: undef :: undef :: undef :: undef :: undef :: undef :: undef :: undef :: undef :: undef :: undef :: undef :: undef :: undef :: undef :: undef :: undef :: undef :: undef :: undef :: undef :: undef :: undef :: undef :: undef :: undef :: undef :: undef :: undef :: undef :: undef :: undef :: undef :: undef :: undef :: undef :: undef :: undef :: undef :: undef :: undef :: undef :: undef :: undef :: undef :: undef :: undef :: undef :: undef :: undef :: undef :: undef :: undef :: undef :: undef :: undef :: undef :: undef :: undef :: undef :: undef :: undef :: undef :: undef :: undef :: undef :: undef :: undef :: undef :: undef :: undef :: undef :: undef :: undef :: undef :: undef :: undef :: undef :: undef :: undef :: undef :: undef :: undef :: undef :: undef :: undef :: undef :: undef :: undef :: undef :: undef :: undef :: undef :: undef :: undef :: undef :: undef :: undef :: undef :: undef :: undef :: undef :: undef :: undef :: undef :: undef :: undef :: undef :: undef :: undef :: undef :: []).toArray, []⟩ u) := by
      intro u aA cA tA aG cG tG bG BW KS KT DA OKA BLA DG OKG BLG XG NG
      rw [hG]
      have hS : u.cell? ⟨bs, 0, none⟩ = some (.slice a xs.length c) ∧ u.cell? ⟨bs, 1, none⟩ = some (.int .u8 (N : Int)) ∧ u.cell? ⟨bs + 1, 0, none⟩ = some (.slice a1 ys.length c1) ∧ u.cell? ⟨bs + 1, 1, none⟩ = some (.int .u8 (N1 : Int)) := ⟨(box2v KS.out).1, (box2v KS.out).2, (box2v KT.out).1, (box2v KT.out).2⟩
      refine wpAnyH_ready (rs := [4]) (by kernel_rfl) (by simp) ?_
      refine AllReadyH.cons rfl (fun K hK => ?_) (AllReadyH.nil)
      · try simp only [Act.put, List.getElem_toArray, List.getElem_cons_zero, List.getElem_cons_succ, List.setIfInBounds_toArray, List.set_cons_zero, List.set_cons_succ]
        obtain ⟨u1, bA, eX, hBX, zX, hX, BX⟩ := laid u dg0 28
        have NA : Hid (bs + 2 ≤ bA) := by show _ ≤ _; have := heap_lt KT.out; omega
        have NEAG : Hid (bA ≠ bG) := by have h := heap_lt XG.out; show _ ≠ _; omega
        replace DA : Hid (DgAt u1 (fun q => q = bA ∨ q = bG) (.agg #[.slice aA tA.canon.nodes.length cA, .int .i64 tA.canon.root]) tA.canon) := DA.out.newer BX (fun q hq => by rcases hq with rfl | rfl <;> first | exact .inr (by omega) | (left; simp) )
        replace DG : Hid (DgAt u1 (fun q => q = bA ∨ q = bG) (.agg #[.slice aG tG.canon.nodes.length cG, .int .i64 tG.canon.root]) tG.canon) := DG.out.newer BX (fun q hq => by rcases hq with rfl | rfl <;> first | exact .inr (by omega) | (left; simp) )
        replace XG := Lib.hid (heap_below BX XG.out)
        replace KS : Hid (u1.heap[bs]? = some (.cells #[.slice a xs.length c, .int .u8 (N : Int)] 24 (0, 0))) := heap_below BX KS.out
        replace KT : Hid (u1.heap[bs + 1]? = some (.cells #[.slice a1 ys.length c1, .int .u8 (N1 : Int)] 24 (0, 0))) := heap_below BX KT.out
        have XA := Lib.hid hX
        replace BW := Lib.hid (BW.out.trans (BX.mono BW.out.size))
        go_simp
        clear hX BX eX hBX zX
        refine hK.out _ _ (⟨(box2v KS.out).1, (box2v KS.out).2, (box2v KT.out).1, (box2v KT.out).2⟩) (fun hS => ?_)
        clear hK K
        try simp only [Act.put, List.getElem_toArray, List.getElem_cons_zero, List.getElem_cons_succ, List.setIfInBounds_toArray, List.set_cons_zero, List.set_cons_succ]
        rw [← hG]
        exact st2_01.out u1 aA cA tA aG cG tG bA bG BW KS KT DA OKA BLA DG OKG BLG XA NA XG NG NEAG
    have st2_ : Hid (∀ (u : World) (aA : Option Addr) (cA : Nat) (tA : T) (aG : Option Addr) (cG : Nat) (tG : T), Hid (Below w.heap.size w u) → Hid (u.heap[bs]? = some (.cells #[.slice a xs.length c, .int .u8 (N : Int)] 24 (0, 0))) → Hid (u.heap[bs + 1]? = some (.cells #[.slice a1 ys.length c1, .int .u8 (N1 : Int)] 24 (0, 0))) → Hid (DgAt u NoB (.agg #[.slice aA tA.canon.nodes.length cA, .int .i64 tA.canon.root]) tA.canon) → Hid (tA.Ok) → Hid (tA.bel (N % 7)) → Hid (DgAt u NoB (.agg #[.slice aG tG.canon.nodes.length cG, .int .i64 tG.canon.root]) tG.canon) → Hid (tG.Ok) → Hid (tG.bel (N1 % 7)) → G 4 #[true, true, true, true, false, false, false, false] ⟨((.agg #[.slice a xs.length c, .int .u8 (N : Int)]) :: (.agg #[.slice a1 ys.length c1, .int .u8 (N1 : Int)]) :: .int .u8 q :: (.pointer (some ⟨bs, 0, none⟩)) :: (.pointer (some ⟨bs + 1, 0, none⟩)) :: undef :: .bool false :: .bool true :: undef :: undef :: undef :: undef :: undef :: undef :: undef :: undef :: undef :: undef :: undef :: undef :: undef :: undef :: undef :: undef :: undef :: undef :: undef :: undef :: undef :: undef :: undef :: undef :: undef :: undef :: undef :: undef :: undef :: .bool true :: (.agg #[.slice a xs.length c, .int .u8 (N : Int)]) :: (.agg #[.slice aA tA.canon.nodes.length cA, .int .i64 tA.canon.root]) :: (.agg #[.slice a1 ys.length c1, .int .u8 (N1 : Int)]) :: (.agg #[.slice aG tG.canon.nodes.length cG, .int .i64 tG.canon.root]) :: undef :: undef :: undef :: undef :: undef :: undef :: undef :: undef :: undef :: undef :: undef :: undef :: undef :: undef :: undef :: undef :: undef :: undef :: undef :: undef :: undef :: undef :: undef :: undef :: undef :: undef :: undef :: undef :: undef :: undef :: undef :: undef :: undef :: undef :: undef :: undef :: undef :: undef :: undef :: undef :: undef :: undef :: undef :: undef :: undef :: undef :: undef :: undef :: undef :: undef :: undef :: undef :: undef :: undef :: undef :: undef :: undef :: undef :: undef :: undef :: undef :: undef :: undef :: undef :: undef :: undef :: undef :: undef :: undef :: undef :: undef :: undef :: undef :: undef :: undef :: undef :: undef :: undef :: undef :: undef :: undef :: undef :: undef :: undef :: undef :: undef :: undef :: undef :: undef :: undef :: undef :: undef :: undef :: undef :: undef :: undef :: undef :: undef :: undef :: undef :: undef :: undef :: undef :: undef :: undef :: undef :: undef :: undef :: undef :: undef :: undef :: undef :: undef :: undef :: undef :: undef :: undef :: undef :: undef :: undef :: undef :: undef :: undef :: undef :: undef :: undef :: []).toArray, []⟩ u) := by
      intro u aA cA tA aG cG tG BW KS KT DA OKA BLA DG OKG BLG
      rw [hG]
      have hS : u.cell? ⟨bs, 0, none⟩ = some (.slice a xs.length c) ∧ u.cell? ⟨bs, 1, none⟩ = some (.int .u8 (N : Int)) ∧ u.cell? ⟨bs + 1, 0, none⟩ = some (.slice a1 ys.length c1) ∧ u.cell? ⟨bs + 1, 1, none⟩ = some (.int .u8 (N1 : Int)) := ⟨(box2v KS.out).1, (box2v KS.out).2, (box2v KT.out).1, (box2v KT.out).2⟩
      refine wpAnyH_ready (rs := [4, 5]) (by kernel_rfl) (by simp) ?_
      refine AllReadyH.cons rfl (fun K hK => ?_) (AllReadyH.cons rfl (fun K hK => ?_) (AllReadyH.nil))
      · try simp only [Act.put, List.getElem_toArray, List.getElem_cons_zero, List.getElem_cons_succ, List.setIfInBounds_toArray, List.set_cons_zero, List.set_cons_succ]
        obtain ⟨u1, bA, eX, hBX, zX, hX, BX⟩ := laid u dg0 28
        have NA : Hid (bs + 2 ≤ bA) := by show _ ≤ _; have := heap_lt KT.out; omega
        replace DA : Hid (DgAt u1 (fun q => q = bA) (.agg #[.slice aA tA.canon.nodes.length cA, .int .i64 tA.canon.root]) tA.canon) := DA.out.newer BX (fun q hq => .inr (by rw [hq]; omega))
        replace DG : Hid (DgAt u1 (fun q => q = bA) (.agg #[.slice aG tG.canon.nodes.length cG, .int .i64 tG.canon.root]) tG.canon) := DG.out.newer BX (fun q hq => .inr (by rw [hq]; omega))
        replace KS : Hid (u1.heap[bs]? = some (.cells #[.slice a xs.length c, .int .u8 (N : Int)] 24 (0, 0))) := heap_below BX KS.out
        replace KT : Hid (u1.heap[bs + 1]? = some (.cells #[.slice a1 ys.length c1, .int .u8 (N1 : Int)] 24 (0, 0))) := heap_below BX KT.out
        have XA := Lib.hid hX
        replace BW := Lib.hid (BW.out.trans (BX.mono BW.out.size))
        go_simp
        clear hX BX eX hBX zX
        refine hK.out _ _ (⟨(box2v KS.out).1, (box2v KS.out).2, (box2v KT.out).1, (box2v KT.out).2⟩) (fun hS => ?_)
        clear hK K
        try simp only [Act.put, List.getElem_toArray, List.getElem_cons_zero, List.getElem_cons_succ, List.setIfInBounds_toArray, List.set_cons_zero, List.set_cons_succ]
        rw [← hG]
        exact st2_0.out u1 aA cA tA aG cG tG bA BW KS KT DA OKA BLA DG OKG BLG XA NA
      · try simp only [Act.put, List.getElem_toArray, List.getElem_cons_zero, List.getElem_cons_succ, List.setIfInBounds_toArray, List.set_cons_zero, List.set_cons_succ]
        obtain ⟨u1, bG, eX, hBX, zX, hX, BX⟩ := laid u dg0 28
        have NG : Hid (bs + 2 ≤ bG) := by show _ ≤ _; have := heap_lt KT.out; omega
        replace DA : Hid (DgAt u1 (fun q => q = bG) (.agg #[.slice aA tA.canon.nodes.length cA, .int .i64 tA.canon.root]) tA.canon) := DA.out.newer BX (fun q hq => .inr (by rw [hq]; omega))
        replace DG : Hid (DgAt u1 (fun q => q = bG) (.agg #[.slice aG tG.canon.nodes.length cG, .int .i64 tG.canon.root]) tG.canon) := DG.out.newer BX (fun q hq => .inr (by rw [hq]; omega))
        replace KS : Hid (u1.heap[bs]? = some (.cells #[.slice a xs.length c, .int .u8 (N : Int)] 24 (0, 0))) := heap_below BX KS.out
        replace KT : Hid (u1.heap[bs + 1]? = some (.cells #[.slice a1 ys.length c1, .int .u8 (N1 : Int)] 24 (0, 0))) := heap_below BX KT.out
        have XG := Lib.hid hX
        replace BW := Lib.hid (BW.out.trans (BX.mono BW.out.size))
        go_simp
        clear hX BX eX hBX zX
        refine hK.out _ _ (⟨(box2v KS.out).1, (box2v KS.out).2, (box2v KT.out).1, (box2v KT.out).2⟩) (fun hS => ?_)
        clear hK K
        try simp only [Act.put, List.getElem_toArray, List.getElem_cons_zero, List.getElem_cons_succ, List.setIfInBounds_toArray, List.set_cons_zero, List.set_cons_succ]
        rw [← hG]
        exact st2_1.out u1 aA cA tA aG cG tG bG BW KS KT DA OKA BLA DG OKG BLG XG NG
    have st1_01 : Hid (∀ (u : World) (aA : Option Addr) (cA : Nat) (tA : T) (bA : Nat) (bG : Nat), Hid (Below w.heap.size w u) → Hid (u.heap[bs]? = some (.cells #[.slice a xs.length c, .int .u8 (N : Int)] 24 (0, 0))) → Hid (u.heap[bs + 1]? = some (.cells #[.slice a1 ys.length c1, .int .u8 (N1 : Int)] 24 (0, 0))) → Hid (DgAt u (fun q => q = bA ∨ q = bG) (.agg #[.slice aA tA.canon.nodes.length cA, .int .i64 tA.canon.root]) tA.canon) → Hid (tA.Ok) → Hid (tA.bel (N % 7)) → Hid (u.heap[bA]? = some (.cells dg0 28 (0, 0))) → Hid (bs + 2 ≤ bA) → Hid (u.heap[bG]? = some (.cells dg0 28 (0, 0))) → Hid (bs + 2 ≤ bG) → Hid (bA ≠ bG) → G 3 #[true, true, true, false, true, true, false, false] ⟨((.agg #[.slice a xs.length c, .int .u8 (N : Int)]) :: (.agg #[.slice a1 ys.length c1, .int .u8 (N1 : Int)]) :: .int .u8 q :: (.pointer (some ⟨bs, 0, none⟩)) :: (.pointer (some ⟨bs + 1, 0, none⟩)) :: undef :: .bool false :: .bool true :: (.pointer (some ⟨bA, 0, none⟩)) :: (.pointer (some ⟨bG, 0, none⟩)) :: undef :: undef :: undef :: undef :: undef :: undef :: undef :: undef :: undef :: undef :: undef :: undef :: undef :: undef :: undef :: undef :: undef :: undef :: undef :: undef :: undef :: undef :: undef :: undef :: undef :: undef :: undef :: .bool true :: (.agg #[.slice a xs.length c, .int .u8 (N : Int)]) :: (.agg #[.slice aA tA.canon.nodes.length cA, .int .i64 tA.canon.root]) :: (.agg #[.slice a1 ys.length c1, .int .u8 (N1 : Int)]) :: undef :: undef :: undef :: undef :: undef :: undef :: undef :: undef :: undef :: undef :: undef :: undef :: undef :: undef :: undef :: undef :: undef :: undef :: undef :: undef :: undef :: undef :: undef :: undef :: undef :: undef :: undef :: undef :: undef :: undef :: undef :: undef :: undef :: undef :: undef :: undef :: undef :: undef :: undef :: undef :: undef :: undef :: undef :: undef :: undef :: undef :: undef :: undef :: undef :: undef :: undef :: undef :: undef :: undef :: undef :: undef :: undef :: undef :: undef :: undef :: undef :: undef :: undef :: undef :: undef :: undef :: undef :: undef :: undef :: undef :: undef :: undef :: undef :: undef :: undef :: undef :: undef :: undef :: undef :: undef :: undef :: undef :: undef :: undef :: undef :: undef :: undef :: undef :: undef :: undef :: undef :: undef :: undef :: undef :: undef :: undef :: undef :: undef :: undef :: undef :: undef :: undef :: undef :: undef :: undef :: undef :: undef :: undef :: undef :: undef :: undef :: undef :: undef :: undef :: undef :: undef :: undef :: undef :: undef :: undef :: undef :: undef :: undef :: undef :: undef :: undef :: undef :: []).toArray, []⟩ u) := by
      intro u aA cA tA bA bG BW KS KT DA OKA BLA XA NA XG NG NEAG
      rw [hG]
      have hS : u.cell? ⟨bs, 0, none⟩ = some (.slice a xs.length c) ∧ u.cell? ⟨bs, 1, none⟩ = some (.int .u8 (N : Int)) ∧ u.cell? ⟨bs + 1, 0, none⟩ = some (.slice a1 ys.length c1) ∧ u.cell? ⟨bs + 1, 1, none⟩ = some (.int .u8 (N1 : Int)) := ⟨(box2v KS.out).1, (box2v KS.out).2, (box2v KT.out).1, (box2v KT.out).2⟩
      refine wpAnyH_ready (rs := [3]) (by kernel_rfl) (by simp) ?_
      refine AllReadyH.cons rfl (fun K hK => ?_) (AllReadyH.nil)
      · try simp only [Act.put, List.getElem_toArray, List.getElem_cons_zero, List.getElem_cons_succ, List.setIfInBounds_toArray, List.set_cons_zero, List.set_cons_succ]
        go_simp
        refine (lmade_any u _ ys N1 (HT.out.below BW.out)).mono ?_
        rintro e u1 ⟨⟨aG, cG, tG, rfl, ok, bl, hM⟩, hb⟩
        have DG := Lib.hid (hM (fun q => q = bA ∨ q = bG) (fun q hq => by have h0 := heap_lt XA.out; have h1 := heap_lt XG.out; omega))
        have OKG := Lib.hid ok; have BLG := Lib.hid bl
        replace KS : Hid (u1.heap[bs]? = some (.cells #[.slice a xs.length c, .int .u8 (N : Int)] 24 (0, 0))) := heap_below hb KS.out
        replace KT : Hid (u1.heap[bs + 1]? = some (.cells #[.slice a1 ys.length c1, .int .u8 (N1 : Int)] 24 (0, 0))) := heap_below hb KT.out
        replace DA := Lib.hid (DA.out.below hb)
        replace XA := Lib.hid (heap_below hb XA.out)
        replace XG := Lib.hid (heap_below hb XG.out)
        replace BW := Lib.hid (BW.out.trans (hb.mono BW.out.size))
        clear hM hb ok bl
        refine hK.out _ _ (⟨(box2v KS.out).1, (box2v KS.out).2, (box2v KT.out).1, (box2v KT.out).2⟩) (fun hS => ?_)
        clear hK K
        try simp only [Act.put, List.getElem_toArray, List.getElem_cons_zero, List.getElem_cons_succ, List.setIfInBounds_toArray, List.set_cons_zero, List.set_cons_succ]
        rw [← hG]
        exact st2_01.out u1 aA cA tA aG cG tG bA bG BW KS KT DA OKA BLA DG OKG BLG XA NA XG NG NEAG
    have st1_0 : Hid (∀ (u : World) (aA : Option Addr) (cA : Nat) (tA : T) (bA : Nat), Hid (Below w.heap.size w u) → Hid (u.heap[bs]? = some (.cells #[.slice a xs.length c, .int .u8 (N : Int)] 24 (0, 0))) → Hid (u.heap[bs + 1]? = some (.cells #[.slice a1 ys.length c1, .int .u8 (N1 : Int)] 24 (0, 0))) → Hid (DgAt u (fun q => q = bA) (.agg #[.slice aA tA.canon.nodes.length cA, .int .i64 tA.canon.root]) tA.canon) → Hid (tA.Ok) → Hid (tA.bel (N % 7)) → Hid (u.heap[bA]? = some (.cells dg0 28 (0, 0))) → Hid (bs + 2 ≤ bA) → G 4 #[true, true, true, false, true, false, false, false] ⟨((.agg #[.slice a xs.length c, .int .u8 (N : Int)]) :: (.agg #[.slice a1 ys.length c1, .int .u8 (N1 : Int)]) :: .int .u8 q :: (.pointer (some ⟨bs, 0, none⟩)) :: (.pointer (some ⟨bs + 1, 0, none⟩)) :: undef :: .bool false :: .bool true :: (.pointer (some ⟨bA, 0, none⟩)) :: undef :: undef :: undef :: undef :: undef :: undef :: undef :: undef :: undef :: undef :: undef :: undef :: undef :: undef :: undef :: undef :: undef :: undef :: undef :: undef :: undef :: undef :: undef :: undef :: undef :: undef :: undef :: undef :: .bool true :: (.agg #[.slice a xs.length c, .int .u8 (N : Int)]) :: (.agg #[.slice aA tA.canon.nodes.length cA, .int .i64 tA.canon.root]) :: (.agg #[.slice a1 ys.length c1, .int .u8 (N1 : Int)]) :: undef :: undef :: undef :: undef :: undef :: undef :: undef :: undef :: undef :: undef :: undef :: undef :: undef :: undef :: undef :: undef :: undef :: undef :: undef :: undef :: undef :: undef :: undef :: undef :: undef :: undef :: undef :: undef :: undef :: undef :: undef :: undef :: undef :: undef :: undef :: undef :: undef :: undef :: undef :: undef :: undef :: undef :: undef :: undef :: undef :: undef :: undef :: undef :: undef :: undef :: undef :: undef :: undef :: undef :: undef :: undef :: undef :: undef :: undef :: undef :: undef :: undef :: undef :: undef :: undef :: undef :: undef :: undef :: undef :: undef :: undef :: undef :: undef :: undef :: undef :: undef :: undef :: undef :: undef :: undef :: undef :: undef :: undef :: undef :: undef :: undef :: undef :: undef :: undef :: undef :: undef :: undef :: undef :: undef :: undef :: undef :: undef :: undef :: undef :: undef :: undef :: undef :: undef :: undef :: undef :: undef :: undef :: undef :: undef :: undef :: undef :: undef :: undef :: undef :: undef :: undef :: undef :: undef :: undef :: undef :: undef :: undef :: undef :: undef :: undef :: undef :: undef :: []).toArray, []⟩ u) := by
      intro u aA cA tA bA BW KS KT DA OKA BLA XA NA
      rw [hG]
      have hS : u.cell? ⟨bs, 0, none⟩ = some (.slice a xs.length c) ∧ u.cell? ⟨bs, 1, none⟩ = some (.int .u8 (N : Int)) ∧ u.cell? ⟨bs + 1, 0, none⟩ = some (.slice a1 ys.length c1) ∧ u.cell? ⟨bs + 1, 1, none⟩ = some (.int .u8 (N1 : Int)) := ⟨(box2v KS.out).1, (box2v KS.out).2, (box2v KT.out).1, (box2v KT.out).2⟩
      refine wpAnyH_ready (rs := [3, 5]) (by kernel_rfl) (by simp) ?_
      refine AllReadyH.cons rfl (fun K hK => ?_) (AllReadyH.cons rfl (fun K hK => ?_) (AllReadyH.nil))
      · try simp only [Act.put, List.getElem_toArray, List.getElem_cons_zero, List.getElem_cons_succ, List.setIfInBounds_toArray, List.set_cons_zero, List.set_cons_succ]
        go_simp
        refine (lmade_any u _ ys N1 (HT.out.below BW.out)).mono ?_
        rintro e u1 ⟨⟨aG, cG, tG, rfl, ok, bl, hM⟩, hb⟩
        have DG := Lib.hid (hM (fun q => q = bA) (fun q hq => by have h0 := heap_lt XA.out; omega))
        have OKG := Lib.hid ok; have BLG := Lib.hid bl
        replace KS : Hid (u1.heap[bs]? = some (.cells #[.slice a xs.length c, .int .u8 (N : Int)] 24 (0, 0))) := heap_below hb KS.out
        replace KT : Hid (u1.heap[bs + 1]? = some (.cells #[.slice a1 ys.length c1, .int .u8 (N1 : Int)] 24 (0, 0))) := heap_below hb KT.out
        replace DA := Lib.hid (DA.out.below hb)
        replace XA := Lib.hid (heap_below hb XA.out)
        replace BW := Lib.hid (BW.out.trans (hb.mono BW.out.size))
        clear hM hb ok bl
        refine hK.out _ _ (⟨(box2v KS.out).1, (box2v KS.out).2, (box2v KT.out).1, (box2v KT.out).2⟩) (fun hS => ?_)
        clear hK K
        try simp only [Act.put, List.getElem_toArray, List.getElem_cons_zero, List.getElem_cons_succ, List.setIfInBounds_toArray, List.set_cons_zero, List.set_cons_succ]
        rw [← hG]
        exact st2_0.out u1 aA cA tA aG cG tG bA BW KS KT DA OKA BLA DG OKG BLG XA NA
      · try simp only [Act.put, List.getElem_toArray, List.getElem_cons_zero, List.getElem_cons_succ, List.setIfInBounds_toArray, List.set_cons_zero, List.set_cons_succ]
        obtain ⟨u1, bG, eX, hBX, zX, hX, BX⟩ := laid u dg0 28
        have NG : Hid (bs + 2 ≤ bG) := by show _ ≤ _; have := heap_lt KT.out; omega
        have NEAG : Hid (bA ≠ bG) := by have h := heap_lt XA.out; show _ ≠ _; omega
        replace DA : Hid (DgAt u1 (fun q => q = bA ∨ q = bG) (.agg #[.slice aA tA.canon.nodes.length cA, .int .i64 tA.canon.root]) tA.canon) := DA.out.newer BX (fun q hq => by rcases hq with rfl | rfl <;> first | exact .inr (by omega) | (left; simp) )
        replace XA := Lib.hid (heap_below BX XA.out)
        replace KS : Hid (u1.heap[bs]? = some (.cells #[.slice a xs.length c, .int .u8 (N : Int)] 24 (0, 0))) := heap_below BX KS.out
        replace KT : Hid (u1.heap[bs + 1]? = some (.cells #[.slice a1 ys.length c1, .int .u8 (N1 : Int)] 24 (0, 0))) := heap_below BX KT.out
        have XG := Lib.hid hX
        replace BW := Lib.hid (BW.out.trans (BX.mono BW.out.size))
        go_simp
        clear hX BX eX hBX zX
        refine hK.out _ _ (⟨(box2v KS.out).1, (box2v KS.out).2, (box2v KT.out).1, (box2v KT.out).2⟩) (fun hS => ?_)
        clear hK K
        try simp only [Act.put, List.getElem_toArray, List.getElem_cons_zero, List.getElem_cons_succ, List.setIfInBounds_toArray, List.set_cons_zero, List.set_cons_succ]
        rw [← hG]
        exact st1_01.out u1 aA cA tA bA bG BW KS KT DA OKA BLA XA NA XG NG NEAG
    have st1_1 : Hid (∀ (u : World) (aA : Option Addr) (cA : Nat) (tA : T) (bG : Nat), Hid (Below w.heap.size w u) → Hid (u.heap[bs]? = some (.cells #[.slice a xs.length c, .int .u8 (N : Int)] 24 (0, 0))) → Hid (u.heap[bs + 1]? = some (.cells #[.slice a1 ys.length c1, .int .u8 (N1 : Int)] 24 (0, 0))) → Hid (DgAt u (fun q => q = bG) (.agg #[.slice aA tA.canon.nodes.length cA, .int .i64 tA.canon.root]) tA.canon) → Hid (tA.Ok) → Hid (tA.bel (N % 7)) → Hid (u.heap[bG]? = some (.cells dg0 28 (0, 0))) → Hid (bs + 2 ≤ bG) → G 4 #[true, true, true, false, false, true, false, false] ⟨((.agg #[.slice a xs.length c, .int .u8 (N : Int)]) :: (.agg #[.slice a1 ys.length c1, .int .u8 (N1 : Int)]) :: .int .u8 q :: (.pointer (some ⟨bs, 0, none⟩)) :: (.pointer (some ⟨bs + 1, 0, none⟩)) :: undef :: .bool false :: .bool true :: undef :: (.pointer (some ⟨bG, 0, none⟩)) :: undef :: undef :: undef :: undef :: undef :: undef :: undef :: undef :: undef :: undef :: undef :: undef :: undef :: undef :: undef :: undef :: undef :: undef :: undef :: undef :: undef :: undef :: undef :: undef :: undef :: undef :: undef :: .bool true :: (.agg #[.slice a xs.length c, .int .u8 (N : Int)]) :: (.agg #[.slice aA tA.canon.nodes.length cA, .int .i64 tA.canon.root]) :: (.agg #[.slice a1 ys.length c1, .int .u8 (N1 : Int)]) :: undef :: undef :: undef :: undef :: undef :: undef :: undef :: undef :: undef :: undef :: undef :: undef :: undef :: undef :: undef :: undef :: undef :: undef :: undef :: undef :: undef :: undef :: undef :: undef :: undef :: undef :: undef :: undef :: undef :: undef :: undef :: undef :: undef :: undef :: undef :: undef :: undef :: undef :: undef :: undef :: undef :: undef :: undef :: undef :: undef :: undef :: undef :: undef :: undef :: undef :: undef :: undef :: undef :: undef :: undef :: undef :: undef :: undef :: undef :: undef :: undef :: undef :: undef :: undef :: undef :: undef :: undef :: undef :: undef :: undef :: undef :: undef :: undef :: undef :: undef :: undef :: undef :: undef :: undef :: undef :: undef :: undef :: undef :: undef :: undef :: undef :: undef :: undef :: undef :: undef :: undef :: undef :: undef :: undef :: undef :: undef :: undef :: undef :: undef :: undef :: undef :: undef :: undef :: undef :: undef :: undef :: undef :: undef :: undef :: undef :: undef :: undef :: undef :: undef :: undef :: undef :: undef :: undef :: undef :: undef :: undef :: undef :: undef :: undef :: undef :: undef :: undef :: []).toArray, []⟩ u) := by
      intro u aA cA tA bG BW KS KT DA OKA BLA XG NG
      rw [hG]
      have hS : u.cell? ⟨bs, 0, none⟩ = some (.slice a xs.length c) ∧ u.cell? ⟨bs, 1, none⟩ = some (.int .u8 (N : Int)) ∧ u.cell? ⟨bs + 1, 0, none⟩ = some (.slice a1 ys.length c1) ∧ u.cell? ⟨bs + 1, 1, none⟩ = some (.int .u8 (N1 : Int)) := ⟨(box2v KS.out).1, (box2v KS.out).2, (box2v KT.out).1, (box2v KT.out).2⟩
      refine wpAnyH_ready (rs := [3, 4]) (by kernel_rfl) (by simp) ?_
      refine AllReadyH.cons rfl (fun K hK => ?_) (AllReadyH.cons rfl (fun K hK => ?_) (AllReadyH.nil))
      · try simp only [Act.put, List.getElem_toArray, List.getElem_cons_zero, List.getElem_cons_succ, List.setIfInBounds_toArray, List.set_cons_zero, List.set_cons_succ]
        go_simp
        refine (lmade_any u _ ys N1 (HT.out.below BW.out)).mono ?_
        rintro e u1 ⟨⟨aG, cG, tG, rfl, ok, bl, hM⟩, hb⟩
        have DG := Lib.hid (hM (fun q => q = bG) (fun q hq => by have h1 := heap_lt XG.out; omega))
        have OKG := Lib.hid ok; have BLG := Lib.hid bl
        replace KS : Hid (u1.heap[bs]? = some (.cells #[.slice a xs.length c, .int .u8 (N : Int)] 24 (0, 0))) := heap_below hb KS.out
        replace KT : Hid (u1.heap[bs + 1]? = some (.cells #[.slice a1 ys.length c1, .int .u8 (N1 : Int)] 24 (0, 0))) := heap_below hb KT.out
        replace DA := Lib.hid (DA.out.below hb)
        replace XG := Lib.hid (heap_below hb XG.out)
        replace BW := Lib.hid (BW.out.trans (hb.mono BW.out.size))
        clear hM hb ok bl
        refine hK.out _ _ (⟨(box2v KS.out).1, (box2v KS.out).2, (box2v KT.out).1, (box2v KT.out).2⟩) (fun hS => ?_)
        clear hK K
        try simp only [Act.put, List.getElem_toArray, List.getElem_cons_zero, List.getElem_cons_succ, List.setIfInBounds_toArray, List.set_cons_zero, List.set_cons_succ]
        rw [← hG]
        exact st2_1.out u1 aA cA tA aG cG tG bG BW KS KT DA OKA BLA DG OKG BLG XG NG
      · try simp only [Act.put, List.getElem_toArray, List.getElem_cons_zero, List.getElem_cons_succ, List.setIfInBounds_toArray, List.set_cons_zero, List.set_cons_succ]
        obtain ⟨u1, bA, eX, hBX, zX, hX, BX⟩ := laid u dg0 28
        have NA : Hid (bs + 2 ≤ bA) := by show _ ≤ _; have := heap_lt KT.out; omega
        have NEAG : Hid (bA ≠ bG) := by have h := heap_lt XG.out; show _ ≠ _; omega
        replace DA : Hid (DgAt u1 (fun q => q = bA ∨ q = bG) (.agg #[.slice aA tA.canon.nodes.length cA, .int .i64 tA.canon.root]) tA.canon) := DA.out.newer BX (fun q hq => by rcases hq with rfl | rfl <;> first | exact .inr (by omega) | (left; simp) )
        replace XG := Lib.hid (heap_below BX XG.out)
        replace KS : Hid (u1.heap[bs]? = some (.cells #[.slice a xs.length c, .int .u8 (N : Int)] 24 (0, 0))) := heap_below BX KS.out
        replace KT : Hid (u1.heap[bs + 1]? = some (.cells #[.slice a1 ys.length c1, .int .u8 (N1 : Int)] 24 (0, 0))) := heap_below BX KT.out
        have XA := Lib.hid hX
        replace BW := Lib.hid (BW.out.trans (BX.mono BW.out.size))
        go_simp
        clear hX BX eX hBX zX
        refine hK.out _ _ (⟨(box2v KS.out).1, (box2v KS.out).2, (box2v KT.out).1, (box2v KT.out).2⟩) (fun hS => ?_)
        clear hK K
        try simp only [Act.put, List.getElem_toArray, List.getElem_cons_zero, List.getElem_cons_succ, List.setIfInBounds_toArray, List.set_cons_zero, List.set_cons_succ]
        rw [← hG]
        exact st1_01.out u1 aA cA tA bA bG BW KS KT DA OKA BLA XA NA XG NG NEAG
    have st1_ : Hid (∀ (u : World) (aA : Option Addr) (cA : Nat) (tA : T), Hid (Below w.heap.size w u) → Hid (u.heap[bs]? = some (.cells #[.slice a xs.length c, .int .u8 (N : Int)] 24 (0, 0))) → Hid (u.heap[bs + 1]? = some (.cells #[.slice a1 ys.length c1, .int .u8 (N1 : Int)] 24 (0, 0))) → Hid (DgAt u NoB (.agg #[.slice aA tA.canon.nodes.length cA, .int .i64 tA.canon.root]) tA.canon) → Hid (tA.Ok) → Hid (tA.bel (N % 7)) → G 5 #[true, true, true, false, false, false, false, false] ⟨((.agg #[.slice a xs.length c, .int .u8 (N : Int)]) :: (.agg #[.slice a1 ys.length c1, .int .u8 (N1 : Int)]) :: .int .u8 q :: (.pointer (some ⟨bs, 0, none⟩)) :: (.pointer (some ⟨bs + 1, 0, none⟩)) :: undef :: .bool false :: .bool true :: undef :: undef :: undef :: undef :: undef :: undef :: undef :: undef :: undef :: undef :: undef :: undef :: undef :: undef :: undef :: undef :: undef :: undef :: undef :: undef :: undef :: undef :: undef :: undef :: undef :: undef :: undef :: undef :: undef :: .bool true :: (.agg #[.slice a xs.length c, .int .u8 (N : Int)]) :: (.agg #[.slice aA tA.canon.nodes.length cA, .int .i64 tA.canon.root]) :: (.agg #[.slice a1 ys.length c1, .int .u8 (N1 : Int)]) :: undef :: undef :: undef :: undef :: undef :: undef :: undef :: undef :: undef :: undef :: undef :: undef :: undef :: undef :: undef :: undef :: undef :: undef :: undef :: undef :: undef :: undef :: undef :: undef :: undef :: undef :: undef :: undef :: undef :: undef :: undef :: undef :: undef :: undef :: undef :: undef :: undef :: undef :: undef :: undef :: undef :: undef :: undef :: undef :: undef :: undef :: undef :: undef :: undef :: undef :: undef :: undef :: undef :: undef :: undef :: undef :: undef :: undef :: undef :: undef :: undef :: undef :: undef :: undef :: undef :: undef :: undef :: undef :: undef :: undef :: undef :: undef :: undef :: undef :: undef :: undef :: undef :: undef :: undef :: undef :: undef :: undef :: undef :: undef :: undef :: undef :: undef :: undef :: undef :: undef :: undef :: undef :: undef :: undef :: undef :: undef :: undef :: undef :: undef :: undef :: undef :: undef :: undef :: undef :: undef :: undef :: undef :: undef :: undef :: undef :: undef :: undef :: undef :: undef :: undef :: undef :: undef :: undef :: undef :: undef :: undef :: undef :: undef :: undef :: undef :: undef :: undef :: []).toArray, []⟩ u) := by
      intro u aA cA tA BW KS KT DA OKA BLA
      rw [hG]
      have hS : u.cell? ⟨bs, 0, none⟩ = some (.slice a xs.length c) ∧ u.cell? ⟨bs, 1, none⟩ = some (.int .u8 (N : Int)) ∧ u.cell? ⟨bs + 1, 0, none⟩ = some (.slice a1 ys.length c1) ∧ u.cell? ⟨bs + 1, 1, none⟩ = some (.int .u8 (N1 : Int)) := ⟨(box2v KS.out).1, (box2v KS.out).2, (box2v KT.out).1, (box2v KT.out).2⟩
      refine wpAnyH_ready (rs := [3, 4, 5]) (by kernel_rfl) (by simp) ?_
      refine AllReadyH.cons rfl (fun K hK => ?_) (AllReadyH.cons rfl (fun K hK => ?_) (AllReadyH.cons rfl (fun K hK => ?_) (AllReadyH.nil)))
      · try simp only [Act.put, List.getElem_toArray, List.getElem_cons_zero, List.getElem_cons_succ, List.setIfInBounds_toArray, List.set_cons_zero, List.set_cons_succ]
        go_simp
        refine (lmade_any u _ ys N1 (HT.out.below BW.out)).mono ?_
        rintro e u1 ⟨⟨aG, cG, tG, rfl, ok, bl, hM⟩, hb⟩
        have DG := Lib.hid (hM NoB (fun q hq => hq.elim))
        have OKG := Lib.hid ok; have BLG := Lib.hid bl
        replace KS : Hid (u1.heap[bs]? = some (.cells #[.slice a xs.length c, .int .u8 (N : Int)] 24 (0, 0))) := heap_below hb KS.out
        replace KT : Hid (u1.heap[bs + 1]? = some (.cells #[.slice a1 ys.length c1, .int .u8 (N1 : Int)] 24 (0, 0))) := heap_below hb KT.out
        replace DA := Lib.hid (DA.out.below hb)
        replace BW := Lib.hid (BW.out.trans (hb.mono BW.out.size))
        clear hM hb ok bl
        refine hK.out _ _ (⟨(box2v KS.out).1, (box2v KS.out).2, (box2v KT.out).1, (box2v KT.out).2⟩) (fun hS => ?_)
        clear hK K
        try simp only [Act.put, List.getElem_toArray, List.getElem_cons_zero, List.getElem_cons_succ, List.setIfInBounds_toArray, List.set_cons_zero, List.set_cons_succ]
        rw [← hG]
        exact st2_.out u1 aA cA tA aG cG tG BW KS KT DA OKA BLA DG OKG BLG
      · try simp only [Act.put, List.getElem_toArray, List.getElem_cons_zero, List.getElem_cons_succ, List.setIfInBounds_toArray, List.set_cons_zero, List.set_cons_succ]
        obtain ⟨u1, bA, eX, hBX, zX, hX, BX⟩ := laid u dg0 28
        have NA : Hid (bs + 2 ≤ bA) := by show _ ≤ _; have := heap_lt KT.out; omega
        replace DA : Hid (DgAt u1 (fun q => q = bA) (.agg #[.slice aA tA.canon.nodes.length cA, .int .i64 tA.canon.root]) tA.canon) := DA.out.newer BX (fun q hq => .inr (by rw [hq]; omega))
        replace KS : Hid (u1.heap[bs]? = some (.cells #[.slice a xs.length c, .int .u8 (N : Int)] 24 (0, 0))) := heap_below BX KS.out
        replace KT : Hid (u1.heap[bs + 1]? = some (.cells #[.slice a1 ys.length c1, .int .u8 (N1 : Int)] 24 (0, 0))) := heap_below BX KT.out
        have XA := Lib.hid hX
        replace BW := Lib.hid (BW.out.trans (BX.mono BW.out.size))
        go_simp
        clear hX BX eX hBX zX
        refine hK.out _ _ (⟨(box2v KS.out).1, (box2v KS.out).2, (box2v KT.out).1, (box2v KT.out).2⟩) (fun hS => ?_)
        clear hK K
        try simp only [Act.put, List.getElem_toArray, List.getElem_cons_zero, List.getElem_cons_succ, List.setIfInBounds_toArray, List.set_cons_zero, List.set_cons_succ]
        rw [← hG]
        exact st1_0.out u1 aA cA tA bA BW KS KT DA OKA BLA XA NA
      · try simp only [Act.put, List.getElem_toArray, List.getElem_cons_zero, List.getElem_cons_succ, List.setIfInBounds_toArray, List.set_cons_zero, List.set_cons_succ]
        obtain ⟨u1, bG, eX, hBX, zX, hX, BX⟩ := laid u dg0 28
        have NG : Hid (bs + 2 ≤ bG) := by show _ ≤ _; have := heap_lt KT.out; omega
        replace DA : Hid (DgAt u1 (fun q => q = bG) (.agg #[.slice aA tA.canon.nodes.length cA, .int .i64 tA.canon.root]) tA.canon) := DA.out.newer BX (fun q hq => .inr (by rw [hq]; omega))
        replace KS : Hid (u1.heap[bs]? = some (.cells #[.slice a xs.length c, .int .u8 (N : Int)] 24 (0, 0))) := heap_below BX KS.out
        replace KT : Hid (u1.heap[bs + 1]? = some (.cells #[.slice a1 ys.length c1, .int .u8 (N1 : Int)] 24 (0, 0))) := heap_below BX KT.out
        have XG := Lib.hid hX
        replace BW := Lib.hid (BW.out.trans (BX.mono BW.out.size))
        go_simp
        clear hX BX eX hBX zX
        refine hK.out _ _ (⟨(box2v KS.out).1, (box2v KS.out).2, (box2v KT.out).1, (box2v KT.out).2⟩) (fun hS => ?_)
        clear hK K
        try simp only [Act.put, List.getElem_toArray, List.getElem_cons_zero, List.getElem_cons_succ, List.setIfInBounds_toArray, List.set_cons_zero, List.set_cons_succ]
        rw [← hG]
        exact st1_1.out u1 aA cA tA bG BW KS KT DA OKA BLA XG NG
    have st0_01 : Hid (∀ (u : World) (bA : Nat) (bG : Nat), Hid (Below w.heap.size w u) → Hid (u.heap[bs]? = some (.cells #[.slice a xs.length c, .int .u8 (N : Int)] 24 (0, 0))) → Hid (u.heap[bs + 1]? = some (.cells #[.slice a1 ys.length c1, .int .u8 (N1 : Int)] 24 (0, 0))) → Hid (u.heap[bA]? = some (.cells dg0 28 (0, 0))) → Hid (bs + 2 ≤ bA) → Hid (u.heap[bG]? = some (.cells dg0 28 (0, 0))) → Hid (bs + 2 ≤ bG) → Hid (bA ≠ bG) → G 4 #[true, false, true, false, true, true, false, false] ⟨((.agg #[.slice a xs.length c, .int .u8 (N : Int)]) :: (.agg #[.slice a1 ys.length c1, .int .u8 (N1 : Int)]) :: .int .u8 q :: (.pointer (some ⟨bs, 0, none⟩)) :: (.pointer (some ⟨bs + 1, 0, none⟩)) :: undef :: .bool false :: .bool true :: (.pointer (some ⟨bA, 0, none⟩)) :: (.pointer (some ⟨bG, 0, none⟩)) :: undef :: undef :: undef :: undef :: undef :: undef :: undef :: undef :: undef :: undef :: undef :: undef :: undef :: undef :: undef :: undef :: undef :: undef :: undef :: undef :: undef :: undef :: undef :: undef :: undef :: undef :: undef :: .bool true :: (.agg #[.slice a xs.length c, .int .u8 (N : Int)]) :: undef :: (.agg #[.slice a1 ys.length c1, .int .u8 (N1 : Int)]) :: undef :: undef :: undef :: undef :: undef :: undef :: undef :: undef :: undef :: undef :: undef :: undef :: undef :: undef :: undef :: undef :: undef :: undef :: undef :: undef :: undef :: undef :: undef :: undef :: undef :: undef :: undef :: undef :: undef :: undef :: undef :: undef :: undef :: undef :: undef :: undef :: undef :: undef :: undef :: undef :: undef :: undef :: undef :: undef :: undef :: undef :: undef :: undef :: undef :: undef :: undef :: undef :: undef :: undef :: undef :: undef :: undef :: undef :: undef :: undef :: undef :: undef :: undef :: undef :: undef :: undef :: undef :: undef :: undef :: undef :: undef :: undef :: undef :: undef :: undef :: undef :: undef :: undef :: undef :: undef :: undef :: undef :: undef :: undef :: undef :: undef :: undef :: undef :: undef :: undef :: undef :: undef :: undef :: undef :: undef :: undef :: undef :: undef :: undef :: undef :: undef :: undef :: undef :: undef :: undef :: undef :: undef :: undef :: undef :: undef :: undef :: undef :: undef :: undef :: undef :: undef :: undef :: undef :: undef :: undef :: undef :: undef :: undef :: undef :: undef :: undef :: undef :: []).toArray, []⟩ u) := by
      intro u bA bG BW KS KT XA NA XG NG NEAG
      rw [hG]
      have hS : u.cell? ⟨bs, 0, none⟩ = some (.slice a xs.length c) ∧ u.cell? ⟨bs, 1, none⟩ = some (.int .u8 (N : Int)) ∧ u.cell? ⟨bs + 1, 0, none⟩ = some (.slice a1 ys.length c1) ∧ u.cell? ⟨bs + 1, 1, none⟩ = some (.int .u8 (N1 : Int)) := ⟨(box2v KS.out).1, (box2v KS.out).2, (box2v KT.out).1, (box2v KT.out).2⟩
      refine wpAnyH_ready (rs := [1]) (by kernel_rfl) (by simp) ?_
      refine AllReadyH.cons rfl (fun K hK => ?_) (AllReadyH.nil)
      · try simp only [Act.put, List.getElem_toArray, List.getElem_cons_zero, List.getElem_cons_succ, List.setIfInBounds_toArray, List.set_cons_zero, List.set_cons_succ]
        go_simp
        refine (lmade_any u _ xs N (HS.out.below BW.out)).mono ?_
        rintro e u1 ⟨⟨aA, cA, tA, rfl, ok, bl, hM⟩, hb⟩
        have DA := Lib.hid (hM (fun q => q = bA ∨ q = bG) (fun q hq => by have h0 := heap_lt XA.out; have h1 := heap_lt XG.out; omega))
        have OKA := Lib.hid ok; have BLA := Lib.hid bl
        replace KS : Hid (u1.heap[bs]? = some (.cells #[.slice a xs.length c, .int .u8 (N : Int)] 24 (0, 0))) := heap_below hb KS.out
        replace KT : Hid (u1.heap[bs + 1]? = some (.cells #[.slice a1 ys.length c1, .int .u8 (N1 : Int)] 24 (0, 0))) := heap_below hb KT.out
        replace XA := Lib.hid (heap_below hb XA.out)
        replace XG := Lib.hid (heap_below hb XG.out)
        replace BW := Lib.hid (BW.out.trans (hb.mono BW.out.size))
        clear hM hb ok bl
        refine hK.out _ _ (⟨(box2v KS.out).1, (box2v KS.out).2, (box2v KT.out).1, (box2v KT.out).2⟩) (fun hS => ?_)
        clear hK K
        try simp only [Act.put, List.getElem_toArray, List.getElem_cons_zero, List.getElem_cons_succ, List.setIfInBounds_toArray, List.set_cons_zero, List.set_cons_succ]
        rw [← hG]
        exact st1_01.out u1 aA cA tA bA bG BW KS KT DA OKA BLA XA NA XG NG NEAG
    have st0_0 : Hid (∀ (u : World) (bA : Nat), Hid (Below w.heap.size w u) → Hid (u.heap[bs]? = some (.cells #[.slice a xs.length c, .int .u8 (N : Int)] 24 (0, 0))) → Hid (u.heap[bs + 1]? = some (.cells #[.slice a1 ys.length c1, .int .u8 (N1 : Int)] 24 (0, 0))) → Hid (u.heap[bA]? = some (.cells dg0 28 (0, 0))) → Hid (bs + 2 ≤ bA) → G 5 #[true, false, true, false, true, false, false, false] ⟨((.agg #[.slice a xs.length c, .int .u8 (N : Int)]) :: (.agg #[.slice a1 ys.length c1, .int .u8 (N1 : Int)]) :: .int .u8 q :: (.pointer (some ⟨bs, 0, none⟩)) :: (.pointer (some ⟨bs + 1, 0, none⟩)) :: undef :: .bool false :: .bool true :: (.pointer (some ⟨bA, 0, none⟩)) :: undef :: undef :: undef :: undef :: undef :: undef :: undef :: undef :: undef :: undef :: undef :: undef :: undef :: undef :: undef :: undef :: undef :: undef :: undef :: undef :: undef :: undef :: undef :: undef :: undef :: undef :: undef :: undef :: .bool true :: (.agg #[.slice a xs.length c, .int .u8 (N : Int)]) :: undef :: (.agg #[.slice a1 ys.length c1, .int .u8 (N1 : Int)]) :: undef :: undef :: undef :: undef :: undef :: undef :: undef :: undef :: undef :: undef :: undef :: undef :: undef :: undef :: undef :: undef :: undef :: undef :: undef :: undef :: undef :: undef :: undef :: undef :: undef :: undef :: undef :: undef :: undef :: undef :: undef :: undef :: undef :: undef :: undef :: undef :: undef :: undef :: undef :: undef :: undef :: undef :: undef :: undef :: undef :: undef :: undef :: undef :: undef :: undef :: undef :: undef :: undef :: undef :: undef :: undef :: undef :: undef :: undef :: undef :: undef :: undef :: undef :: undef :: undef :: undef :: undef :: undef :: undef :: undef :: undef :: undef :: undef :: undef :: undef :: undef :: undef :: undef :: undef :: undef :: undef :: undef :: undef :: undef :: undef :: undef :: undef :: undef :: undef :: undef :: undef :: undef :: undef :: undef :: undef :: undef :: undef :: undef :: undef :: undef :: undef :: undef :: undef :: undef :: undef :: undef :: undef :: undef :: undef :: undef :: undef :: undef :: undef :: undef :: undef :: undef :: undef :: undef :: undef :: undef :: undef :: undef :: undef :: undef :: undef :: undef :: undef :: []).toArray, []⟩ u) := by
      intro u bA BW KS KT XA NA
      rw [hG]
      have hS : u.cell? ⟨bs, 0, none⟩ = some (.slice a xs.length c) ∧ u.cell? ⟨bs, 1, none⟩ = some (.int .u8 (N : Int)) ∧ u.cell? ⟨bs + 1, 0, none⟩ = some (.slice a1 ys.length c1) ∧ u.cell? ⟨bs + 1, 1, none⟩ = some (.int .u8 (N1 : Int)) := ⟨(box2v KS.out).1, (box2v KS.out).2, (box2v KT.out).1, (box2v KT.out).2⟩
      refine wpAnyH_ready (rs := [1, 5]) (by kernel_rfl) (by simp) ?_
      refine AllReadyH.cons rfl (fun K hK => ?_) (AllReadyH.cons rfl (fun K hK => ?_) (AllReadyH.nil))
      · try simp only [Act.put, List.getElem_toArray, List.getElem_cons_zero, List.getElem_cons_succ, List.setIfInBounds_toArray, List.set_cons_zero, List.set_cons_succ]
        go_simp
        refine (lmade_any u _ xs N (HS.out.below BW.out)).mono ?_
        rintro e u1 ⟨⟨aA, cA, tA, rfl, ok, bl, hM⟩, hb⟩
        have DA := Lib.hid (hM (fun q => q = bA) (fun q hq => by have h0 := heap_lt XA.out; omega))
        have OKA := Lib.hid ok; have BLA := Lib.hid bl
        replace KS : Hid (u1.heap[bs]? = some (.cells #[.slice a xs.length c, .int .u8 (N : Int)] 24 (0, 0))) := heap_below hb KS.out
        replace KT : Hid (u1.heap[bs + 1]? = some (.cells #[.slice a1 ys.length c1, .int .u8 (N1 : Int)] 24 (0, 0))) := heap_below hb KT.out
        replace XA := Lib.hid (heap_below hb XA.out)
        replace BW := Lib.hid (BW.out.trans (hb.mono BW.out.size))
        clear hM hb ok bl
        refine hK.out _ _ (⟨(box2v KS.out).1, (box2v KS.out).2, (box2v KT.out).1, (box2v KT.out).2⟩) (fun hS => ?_)
        clear hK K
        try simp only [Act.put, List.getElem_toArray, List.getElem_cons_zero, List.getElem_cons_succ, List.setIfInBounds_toArray, List.set_cons_zero, List.set_cons_succ]
        rw [← hG]
        exact st1_0.out u1 aA cA tA bA BW KS KT DA OKA BLA XA NA
      · try simp only [Act.put, List.getElem_toArray, List.getElem_cons_zero, List.getElem_cons_succ, List.setIfInBounds_toArray, List.set_cons_zero, List.set_cons_succ]
        obtain ⟨u1, bG, eX, hBX, zX, hX, BX⟩ := laid u dg0 28
        have NG : Hid (bs + 2 ≤ bG) := by show _ ≤ _; have := heap_lt KT.out; omega
        have NEAG : Hid (bA ≠ bG) := by have h := heap_lt XA.out; show _ ≠ _; omega
        replace XA := Lib.hid (heap_below BX XA.out)
        replace KS : Hid (u1.heap[bs]? = some (.cells #[.slice a xs.length c, .int .u8 (N : Int)] 24 (0, 0))) := heap_below BX KS.out
        replace KT : Hid (u1.heap[bs + 1]? = some (.cells #[.slice a1 ys.length c1, .int .u8 (N1 : Int)] 24 (0, 0))) := heap_below BX KT.out
        have XG := Lib.hid hX
        replace BW := Lib.hid (BW.out.trans (BX.mono BW.out.size))
        go_simp
        clear hX BX eX hBX zX
        refine hK.out _ _ (⟨(box2v KS.out).1, (box2v KS.out).2, (box2v KT.out).1, (box2v KT.out).2⟩) (fun hS => ?_)
        clear hK K
        try simp only [Act.put, List.getElem_toArray, List.getElem_cons_zero, List.getElem_cons_succ, List.setIfInBounds_toArray, List.set_cons_zero, List.set_cons_succ]
        rw [← hG]
        exact st0_01.out u1 bA bG BW KS KT XA NA XG NG NEAG
    have st0_1 : Hid (∀ (u : World) (bG : Nat), Hid (Below w.heap.size w u) → Hid (u.heap[bs]? = some (.cells #[.slice a xs.length c, .int .u8 (N : Int)] 24 (0, 0))) → Hid (u.heap[bs + 1]? = some (.cells #[.slice a1 ys.length c1, .int .u8 (N1 : Int)] 24 (0, 0))) → Hid (u.heap[bG]? = some (.cells dg0 28 (0, 0))) → Hid (bs + 2 ≤ bG) → G 5 #[true, false, true, false, false, true, false, false] ⟨((.agg #[.slice a xs.length c, .int .u8 (N : Int)]) :: (.agg #[.slice a1 ys.length c1, .int .u8 (N1 : Int)]) :: .int .u8 q :: (.pointer (some ⟨bs, 0, none⟩)) :: (.pointer (some ⟨bs + 1, 0, none⟩)) :: undef :: .bool false :: .bool true :: undef :: (.pointer (some ⟨bG, 0, none⟩)) :: undef :: undef :: undef :: undef :: undef :: undef :: undef :: undef :: undef :: undef :: undef :: undef :: undef :: undef :: undef :: undef :: undef :: undef :: undef :: undef :: undef :: undef :: undef :: undef :: undef :: undef :: undef :: .bool true :: (.agg #[.slice a xs.length c, .int .u8 (N : Int)]) :: undef :: (.agg #[.slice a1 ys.length c1, .int .u8 (N1 : Int)]) :: undef :: undef :: undef :: undef :: undef :: undef :: undef :: undef :: undef :: undef :: undef :: undef :: undef :: undef :: undef :: undef :: undef :: undef :: undef :: undef :: undef :: undef :: undef :: undef :: undef :: undef :: undef :: undef :: undef :: undef :: undef :: undef :: undef :: undef :: undef :: undef :: undef :: undef :: undef :: undef :: undef :: undef :: undef :: undef :: undef :: undef :: undef :: undef :: undef :: undef :: undef :: undef :: undef :: undef :: undef :: undef :: undef :: undef :: undef :: undef :: undef :: undef :: undef :: undef :: undef :: undef :: undef :: undef :: undef :: undef :: undef :: undef :: undef :: undef :: undef :: undef :: undef :: undef :: undef :: undef :: undef :: undef :: undef :: undef :: undef :: undef :: undef :: undef :: undef :: undef :: undef :: undef :: undef :: undef :: undef :: undef :: undef :: undef :: undef :: undef :: undef :: undef :: undef :: undef :: undef :: undef :: undef :: undef :: undef :: undef :: undef :: undef :: undef :: undef :: undef :: undef :: undef :: undef :: undef :: undef :: undef :: undef :: undef :: undef :: undef :: undef :: undef :: []).toArray, []⟩ u) := by
      intro u bG BW KS KT XG NG
      rw [hG]
      have hS : u.cell? ⟨bs, 0, none⟩ = some (.slice a xs.length c) ∧ u.cell? ⟨bs, 1, none⟩ = some (.int .u8 (N : Int)) ∧ u.cell? ⟨bs + 1, 0, none⟩ = some (.slice a1 ys.length c1) ∧ u.cell? ⟨bs + 1, 1, none⟩ = some (.int .u8 (N1 : Int)) := ⟨(box2v KS.out).1, (box2v KS.out).2, (box2v KT.out).1, (box2v KT.out).2⟩
      refine wpAnyH_ready (rs := [1, 4]) (by kernel_rfl) (by simp) ?_
      refine AllReadyH.cons rfl (fun K hK => ?_) (AllReadyH.cons rfl (fun K hK => ?_) (AllReadyH.nil))
      · try simp only [Act.put, List.getElem_toArray, List.getElem_cons_zero, List.getElem_cons_succ, List.setIfInBounds_toArray, List.set_cons_zero, List.set_cons_succ]
        go_simp
        refine (lmade_any u _ xs N (HS.out.below BW.out)).mono ?_
        rintro e u1 ⟨⟨aA, cA, tA, rfl, ok, bl, hM⟩, hb⟩
        have DA := Lib.hid (hM (fun q => q = bG) (fun q hq => by have h1 := heap_lt XG.out; omega))
        have OKA := Lib.hid ok; have BLA := Lib.hid bl
        replace KS : Hid (u1.heap[bs]? = some (.cells #[.slice a xs.length c, .int .u8 (N : Int)] 24 (0, 0))) := heap_below hb KS.out
        replace KT : Hid (u1.heap[bs + 1]? = some (.cells #[.slice a1 ys.length c1, .int .u8 (N1 : Int)] 24 (0, 0))) := heap_below hb KT.out
        replace XG := Lib.hid (heap_below hb XG.out)
        replace BW := Lib.hid (BW.out.trans (hb.mono BW.out.size))
        clear hM hb ok bl
        refine hK.out _ _ (⟨(box2v KS.out).1, (box2v KS.out).2, (box2v KT.out).1, (box2v KT.out).2⟩) (fun hS => ?_)
        clear hK K
        try simp only [Act.put, List.getElem_toArray, List.getElem_cons_zero, List.getElem_cons_succ, List.setIfInBounds_toArray, List.set_cons_zero, List.set_cons_succ]
        rw [← hG]
        exact st1_1.out u1 aA cA tA bG BW KS KT DA OKA BLA XG NG
      · try simp only [Act.put, List.getElem_toArray, List.getElem_cons_zero, List.getElem_cons_succ, List.setIfInBounds_toArray, List.set_cons_zero, List.set_cons_succ]
        obtain ⟨u1, bA, eX, hBX, zX, hX, BX⟩ := laid u dg0 28
        have NA : Hid (bs + 2 ≤ bA) := by show _ ≤ _; have := heap_lt KT.out; omega
        have NEAG : Hid (bA ≠ bG) := by have h := heap_lt XG.out; show _ ≠ _; omega
        replace XG := Lib.hid (heap_below BX XG.out)
        replace KS : Hid (u1.heap[bs]? = some (.cells #[.slice a xs.length c, .int .u8 (N : Int)] 24 (0, 0))) := heap_below BX KS.out
        replace KT : Hid (u1.heap[bs + 1]? = some (.cells #[.slice a1 ys.length c1, .int .u8 (N1 : Int)] 24 (0, 0))) := heap_below BX KT.out
        have XA := Lib.hid hX
        replace BW := Lib.hid (BW.out.trans (BX.mono BW.out.size))
        go_simp
        clear hX BX eX hBX zX
        refine hK.out _ _ (⟨(box2v KS.out).1, (box2v KS.out).2, (box2v KT.out).1, (box2v KT.out).2⟩) (fun hS => ?_)
        clear hK K
        try simp only [Act.put, List.getElem_toArray, List.getElem_cons_zero, List.getElem_cons_succ, List.setIfInBounds_toArray, List.set_cons_zero, List.set_cons_succ]
        rw [← hG]
        exact st0_01.out u1 bA bG BW KS KT XA NA XG NG NEAG
    have st0_ : Hid (∀ (u : World) , Hid (Below w.heap.size w u) → Hid (u.heap[bs]? = some (.cells #[.slice a xs.length c, .int .u8 (N : Int)] 24 (0, 0))) → Hid (u.heap[bs + 1]? = some (.cells #[.slice a1 ys.length c1, .int .u8 (N1 : Int)] 24 (0, 0))) → G 6 #[true, false, true, false, false, false, false, false] ⟨((.agg #[.slice a xs.length c, .int .u8 (N : Int)]) :: (.agg #[.slice a1 ys.length c1, .int .u8 (N1 : Int)]) :: .int .u8 q :: (.pointer (some ⟨bs, 0, none⟩)) :: (.pointer (some ⟨bs + 1, 0, none⟩)) :: undef :: .bool false :: .bool true :: undef :: undef :: undef :: undef :: undef :: undef :: undef :: undef :: undef :: undef :: undef :: undef :: undef :: undef :: undef :: undef :: undef :: undef :: undef :: undef :: undef :: undef :: undef :: undef :: undef :: undef :: undef :: undef :: undef :: .bool true :: (.agg #[.slice a xs.length c, .int .u8 (N : Int)]) :: undef :: (.agg #[.slice a1 ys.length c1, .int .u8 (N1 : Int)]) :: undef :: undef :: undef :: undef :: undef :: undef :: undef :: undef :: undef :: undef :: undef :: undef :: undef :: undef :: undef :: undef :: undef :: undef :: undef :: undef :: undef :: undef :: undef :: undef :: undef :: undef :: undef :: undef :: undef :: undef :: undef :: undef :: undef :: undef :: undef :: undef :: undef :: undef :: undef :: undef :: undef :: undef :: undef :: undef :: undef :: undef :: undef :: undef :: undef :: undef :: undef :: undef :: undef :: undef :: undef :: undef :: undef :: undef :: undef :: undef :: undef :: undef :: undef :: undef :: undef :: undef :: undef :: undef :: undef :: undef :: undef :: undef :: undef :: undef :: undef :: undef :: undef :: undef :: undef :: undef :: undef :: undef :: undef :: undef :: undef :: undef :: undef :: undef :: undef :: undef :: undef :: undef :: undef :: undef :: undef :: undef :: undef :: undef :: undef :: undef :: undef :: undef :: undef :: undef :: undef :: undef :: undef :: undef :: undef :: undef :: undef :: undef :: undef :: undef :: undef :: undef :: undef :: undef :: undef :: undef :: undef :: undef :: undef :: undef :: undef :: undef :: undef :: []).toArray, []⟩ u) := by
      intro u  BW KS KT
      rw [hG]
      have hS : u.cell? ⟨bs, 0, none⟩ = some (.slice a xs.length c) ∧ u.cell? ⟨bs, 1, none⟩ = some (.int .u8 (N : Int)) ∧ u.cell? ⟨bs + 1, 0, none⟩ = some (.slice a1 ys.length c1) ∧ u.cell? ⟨bs + 1, 1, none⟩ = some (.int .u8 (N1 : Int)) := ⟨(box2v KS.out).1, (box2v KS.out).2, (box2v KT.out).1, (box2v KT.out).2⟩
      refine wpAnyH_ready (rs := [1, 4, 5]) (by kernel_rfl) (by simp) ?_
      refine AllReadyH.cons rfl (fun K hK => ?_) (AllReadyH.cons rfl (fun K hK => ?_) (AllReadyH.cons rfl (fun K hK => ?_) (AllReadyH.nil)))
      · try simp only [Act.put, List.getElem_toArray, List.getElem_cons_zero, List.getElem_cons_succ, List.setIfInBounds_toArray, List.set_cons_zero, List.set_cons_succ]
        go_simp
        refine (lmade_any u _ xs N (HS.out.below BW.out)).mono ?_
        rintro e u1 ⟨⟨aA, cA, tA, rfl, ok, bl, hM⟩, hb⟩
        have DA := Lib.hid (hM NoB (fun q hq => hq.elim))
        have OKA := Lib.hid ok; have BLA := Lib.hid bl
        replace KS : Hid (u1.heap[bs]? = some (.cells #[.slice a xs.length c, .int .u8 (N : Int)] 24 (0, 0))) := heap_below hb KS.out
        replace KT : Hid (u1.heap[bs + 1]? = some (.cells #[.slice a1 ys.length c1, .int .u8 (N1 : Int)] 24 (0, 0))) := heap_below hb KT.out
        replace BW := Lib.hid (BW.out.trans (hb.mono BW.out.size))
        clear hM hb ok bl
        refine hK.out _ _ (⟨(box2v KS.out).1, (box2v KS.out).2, (box2v KT.out).1, (box2v KT.out).2⟩) (fun hS => ?_)
        clear hK K
        try simp only [Act.put, List.getElem_toArray, List.getElem_cons_zero, List.getElem_cons_succ, List.setIfInBounds_toArray, List.set_cons_zero, List.set_cons_succ]
        rw [← hG]
        exact st1_.out u1 aA cA tA BW KS KT DA OKA BLA
      · try simp only [Act.put, List.getElem_toArray, List.getElem_cons_zero, List.getElem_cons_succ, List.setIfInBounds_toArray, List.set_cons_zero, List.set_cons_succ]
        obtain ⟨u1, bA, eX, hBX, zX, hX, BX⟩ := laid u dg0 28
        have NA : Hid (bs + 2 ≤ bA) := by show _ ≤ _; have := heap_lt KT.out; omega
        replace KS : Hid (u1.heap[bs]? = some (.cells #[.slice a xs.length c, .int .u8 (N : Int)] 24 (0, 0))) := heap_below BX KS.out
        replace KT : Hid (u1.heap[bs + 1]? = some (.cells #[.slice a1 ys.length c1, .int .u8 (N1 : Int)] 24 (0, 0))) := heap_below BX KT.out
        have XA := Lib.hid hX
        replace BW := Lib.hid (BW.out.trans (BX.mono BW.out.size))
        go_simp
        clear hX BX eX hBX zX
        refine hK.out _ _ (⟨(box2v KS.out).1, (box2v KS.out).2, (box2v KT.out).1, (box2v KT.out).2⟩) (fun hS => ?_)
        clear hK K
        try simp only [Act.put, List.getElem_toArray, List.getElem_cons_zero, List.getElem_cons_succ, List.setIfInBounds_toArray, List.set_cons_zero, List.set_cons_succ]
        rw [← hG]
        exact st0_0.out u1 bA BW KS KT XA NA
      · try simp only [Act.put, List.getElem_toArray, List.getElem_cons_zero, List.getElem_cons_succ, List.setIfInBounds_toArray, List.set_cons_zero, List.set_cons_succ]
        obtain ⟨u1, bG, eX, hBX, zX, hX, BX⟩ := laid u dg0 28
        have NG : Hid (bs + 2 ≤ bG) := by show _ ≤ _; have := heap_lt KT.out; omega
        replace KS : Hid (u1.heap[bs]? = some (.cells #[.slice a xs.length c, .int .u8 (N : Int)] 24 (0, 0))) := heap_below BX KS.out
        replace KT : Hid (u1.heap[bs + 1]? = some (.cells #[.slice a1 ys.length c1, .int .u8 (N1 : Int)] 24 (0, 0))) := heap_below BX KT.out
        have XG := Lib.hid hX
        replace BW := Lib.hid (BW.out.trans (BX.mono BW.out.size))
        go_simp
        clear hX BX eX hBX zX
        refine hK.out _ _ (⟨(box2v KS.out).1, (box2v KS.out).2, (box2v KT.out).1, (box2v KT.out).2⟩) (fun hS => ?_)
        clear hK K
        try simp only [Act.put, List.getElem_toArray, List.getElem_cons_zero, List.getElem_cons_succ, List.setIfInBounds_toArray, List.set_cons_zero, List.set_cons_succ]
        rw [← hG]
        exact st0_1.out u1 bG BW KS KT XG NG
    exact st0_.out u  BW KS KT
  clear BW KS KT
  rintro _ _ _ ⟨rfl, u0, aA, cA, tA, aG, cG, tG, bA, bG, rfl, rfl, BW, KS, KT, IA, IG, BLA, BLG⟩
  have HA := Lib.hid IA.out.box; have DA := Lib.hid IA.out.td; have HG := Lib.hid IG.out.box; have DG := Lib.hid IG.out.td
  obtain ⟨vq, hvq⟩ : ∃ v : Nat, q % 58 = v := ⟨(q % 58).toNat, by omega⟩
  obtain ⟨k, hk⟩ : ∃ k : Nat, 6 + (vq : Int) = k := ⟨6 + vq, by omega⟩
  have hk6 : 6 ≤ k ∧ k ≤ 63 := by omega
  have hvt : q.tmod 58 = vq := by rw [Int.tmod_eq_emod_of_nonneg hq.1]; exact hvq
  have hkI : (6 : Int) ≤ k ∧ (k : Int) ≤ 63 := by omega
  have DPA : Hid (Dep 6 tA.ev) := T.dep (T.bel_mono BLA.out (by omega))
  have DPG : Hid (Dep 6 tG.ev) := T.dep (T.bel_mono BLG.out (by omega))
  obtain ⟨P, hP⟩ : ∃ P, 2 ^ k = P := ⟨_, rfl⟩
  have hPl : P < 18446744073709551616 := by rw [← hP]; exact Nat.lt_of_le_of_lt (Nat.pow_le_pow_right (by omega) hk6.2 : 2 ^ k ≤ 2 ^ 63) (by decide)
  have hsh : IntKind.u64.wrap (2 ^ k) = (P : Int) := by rw [← hP]; exact shl_u64 k hk6.2
  have hP := Lib.hid hP
  clear IA IG
  obtain ⟨p0A, p1A⟩ := box2 HA.out
  go_wp2_with (fail)
  clear p0A p1A
  refine (not_t DA.out (few_of_dep DPA.out.not)).mono ?_
  rintro e w21 ⟨hR, hb21⟩
  obtain ⟨aP, cP, tP, rfl, evP, tdP, -⟩ := hR
  have EP := Lib.hid evP
  obtain ⟨w22, bP, eP, hBP, -, hP, BP⟩ := laid w21 #[.slice aP tP.canon.nodes.length cP, .int .i64 tP.canon.root] 28
  have BB := hb21.trans (BP.mono hb21.size)
  replace HA := Lib.hid (heap_below BB HA.out)
  replace DA := Lib.hid (DA.out.below BB)
  replace HG := Lib.hid (heap_below BB HG.out)
  replace DG := Lib.hid (DG.out.below BB)
  replace BW := Lib.hid (BW.out.trans (BB.mono BW.out.size))
  have HP := Lib.hid hP; have DP := Lib.hid (tdP.below BP)
  clear hb21 hP BP BB tdP
  clear evP
  obtain ⟨p0A, p1A⟩ := box2 HA.out
  obtain ⟨p0G, p1G⟩ := box2 HG.out
  go_wp2_with (with_reducible refine wpList_store_last rfl 28 (.tmp 11) (.tmp 48) rfl dg0 #[.slice aP tP.canon.nodes.length cP, .int .i64 tP.canon.root] rfl rfl sizedg rfl (by simp [Value.oneCell']) ?_)
  clear p0A p1A p0G p1G eP hBP
  refine (and_t DA.out DG.out (few_of_dep (DPA.out.and DPG.out))).mono ?_
  rintro e w23 ⟨hR, hb23⟩
  obtain ⟨aQ, cQ, tQ, rfl, evQ, tdQ, -⟩ := hR
  have EQ := Lib.hid evQ
  obtain ⟨w24, bQ, eQ, hBQ, -, hQ, BQ⟩ := laid w23 #[.slice aQ tQ.canon.nodes.length cQ, .int .i64 tQ.canon.root] 28
  have BB := hb23.trans (BQ.mono hb23.size)
  replace HA := Lib.hid (heap_below BB HA.out)
  replace DA := Lib.hid (DA.out.below BB)
  replace HG := Lib.hid (heap_below BB HG.out)
  replace DG := Lib.hid (DG.out.below BB)
  replace HP := Lib.hid (heap_below BB HP.out)
  replace DP := Lib.hid (DP.out.below BB)
  replace BW := Lib.hid (BW.out.trans (BB.mono BW.out.size))
  have HQ := Lib.hid hQ; have DQ := Lib.hid (tdQ.below BQ)
  clear hb23 hQ BQ BB tdQ
  clear evQ
  obtain ⟨p0A, p1A⟩ := box2 HA.out
  obtain ⟨p0G, p1G⟩ := box2 HG.out
  go_wp2_with (with_reducible refine wpList_store_last rfl 28 (.tmp 13) (.tmp 54) rfl dg0 #[.slice aQ tQ.canon.nodes.length cQ, .int .i64 tQ.canon.root] rfl rfl sizedg rfl (by simp [Value.oneCell']) ?_)
  clear p0A p1A p0G p1G eQ hBQ
  refine (or_t DA.out DG.out (few_of_dep (DPA.out.or DPG.out))).mono ?_
  rintro e w25 ⟨hR, hb25⟩
  obtain ⟨aR, cR, tR, rfl, evR, tdR, -⟩ := hR
  have ER := Lib.hid evR
  obtain ⟨w26, bR, eR, hBR, -, hR, BR⟩ := laid w25 #[.slice aR tR.canon.nodes.length cR, .int .i64 tR.canon.root] 28
  have BB := hb25.trans (BR.mono hb25.size)
  replace HA := Lib.hid (heap_below BB HA.out)
  replace DA := Lib.hid (DA.out.below BB)
  replace HG := Lib.hid (heap_below BB HG.out)
  replace DG := Lib.hid (DG.out.below BB)
  replace HP := Lib.hid (heap_below BB HP.out)
  replace DP := Lib.hid (DP.out.below BB)
  replace HQ := Lib.hid (heap_below BB HQ.out)
  replace DQ := Lib.hid (DQ.out.below BB)
  replace BW := Lib.hid (BW.out.trans (BB.mono BW.out.size))
  have HR := Lib.hid hR; have DR := Lib.hid (tdR.below BR)
  clear hb25 hR BR BB tdR
  clear evR
  have bA6 : tA.bel k := T.bel_mono (T.bel_of_dep DA.out.ok DPA.out) hk6.1
  have bG6 : tG.bel k := T.bel_mono (T.bel_of_dep DG.out.ok DPG.out) hk6.1
  have bP6 : tP.bel k := T.bel_mono (T.bel_of_dep (n := 6) DP.out.ok (by rw [show tP.ev = _ from funext EP.out]; exact DPA.out.not)) hk6.1
  have bQ6 : tQ.bel k := T.bel_mono (T.bel_of_dep (n := 6) DQ.out.ok (by rw [show tQ.ev = _ from funext EQ.out]; exact DPA.out.and DPG.out)) hk6.1
  have bR6 : tR.bel k := T.bel_mono (T.bel_of_dep (n := 6) DR.out.ok (by rw [show tR.ev = _ from funext ER.out]; exact DPA.out.or DPG.out)) hk6.1
  have bA7 : tA.bel (k + 1) := T.bel_mono bA6 (by omega)
  obtain ⟨nA, hnA⟩ : ∃ n, tA.count k = n := ⟨_, rfl⟩
  obtain ⟨nG, hnG⟩ : ∃ n, tG.count k = n := ⟨_, rfl⟩
  obtain ⟨nP, hnP⟩ : ∃ n, tP.count k = n := ⟨_, rfl⟩
  obtain ⟨nQ, hnQ⟩ : ∃ n, tQ.count k = n := ⟨_, rfl⟩
  obtain ⟨nR, hnR⟩ : ∃ n, tR.count k = n := ⟨_, rfl⟩
  obtain ⟨nM, hnM⟩ : ∃ n, tA.count (k + 1) = n := ⟨_, rfl⟩
  have S1 : nA + nP = P := by rw [← hnA, ← hnP, ← hP.out, T.count_eq DA.out.ok bA6 (by omega), T.count_eq DP.out.ok bP6 (by omega), show tP.ev = _ from funext EP.out]; exact cntF_not _ _ _ _
  have S2 : nA + nG = nQ + nR := by rw [← hnA, ← hnG, ← hnQ, ← hnR, T.count_eq DA.out.ok bA6 (by omega), T.count_eq DG.out.ok bG6 (by omega), T.count_eq DQ.out.ok bQ6 (by omega), T.count_eq DR.out.ok bR6 (by omega), show tQ.ev = _ from funext EQ.out, show tR.ev = _ from funext ER.out]; exact (cntF_or _ _ _ _ _).symm
  have S3 : nA + nA = nM := by
    have h := cntF_more k 0 tA.ev (fun _ => false) (fun c b => T.bel_upd bA6 c (0 + k) (by omega) b)
    rw [← hnA, ← hnM, T.count_eq DA.out.ok bA6 (by omega), T.count_eq DA.out.ok bA7 (by omega), h]; omega
  have L1 : nA ≤ P := by omega
  have L2 : nG ≤ P := by rw [← hnG, ← hP.out, T.count_eq DG.out.ok bG6 (by omega)]; exact cntF_le _ _ _ _
  have CA := Lib.hid bA6; have CG := Lib.hid bG6; have CP := Lib.hid bP6; have CQ := Lib.hid bQ6; have CR := Lib.hid bR6; have CM := Lib.hid bA7
  have KA := Lib.hid hnA; have KG := Lib.hid hnG; have KP := Lib.hid hnP; have KQ := Lib.hid hnQ; have KR := Lib.hid hnR; have KM := Lib.hid hnM
  have S1 := Lib.hid S1; have S2 := Lib.hid S2; have S3 := Lib.hid S3; have L1 := Lib.hid L1; have L2 := Lib.hid L2
  clear bA6 bG6 bP6 bQ6 bR6 bA7 hnA hnG hnP hnQ hnR hnM
  obtain ⟨p0A, p1A⟩ := box2 HA.out
  go_wp2_with (with_reducible refine wpList_store_last rfl 28 (.tmp 15) (.tmp 60) rfl dg0 #[.slice aR tR.canon.nodes.length cR, .int .i64 tR.canon.root] rfl rfl sizedg rfl (by simp [Value.oneCell']) ?_)
  clear p0A p1A eR hBR
  refine (count_r DA.out k (by omega) CA.out KA.out).mono ?_
  rintro e w27 ⟨⟨rA, lA, vA, rfl, hN⟩, hb27⟩
  replace HA := Lib.hid (heap_below hb27 HA.out)
  replace DA := Lib.hid (DA.out.below hb27)
  replace HG := Lib.hid (heap_below hb27 HG.out)
  replace DG := Lib.hid (DG.out.below hb27)
  replace HP := Lib.hid (heap_below hb27 HP.out)
  replace DP := Lib.hid (DP.out.below hb27)
  replace HQ := Lib.hid (heap_below hb27 HQ.out)
  replace DQ := Lib.hid (DQ.out.below hb27)
  replace HR := Lib.hid (heap_below hb27 HR.out)
  replace DR := Lib.hid (DR.out.below hb27)
  replace BW := Lib.hid (BW.out.trans (hb27.mono BW.out.size))
  clear hb27
  have ZA := Lib.hid hN
  clear hN
  obtain ⟨p0G, p1G⟩ := box2 HG.out
  go_wp2_with (fail)
  clear p0G p1G
  refine (count_r DG.out k (by omega) CG.out KG.out).mono ?_
  rintro e w28 ⟨⟨rG, lG, vG, rfl, hN⟩, hb28⟩
  replace HA := Lib.hid (heap_below hb28 HA.out)
  replace DA := Lib.hid (DA.out.below hb28)
  replace HG := Lib.hid (heap_below hb28 HG.out)
  replace DG := Lib.hid (DG.out.below hb28)
  replace HP := Lib.hid (heap_below hb28 HP.out)
  replace DP := Lib.hid (DP.out.below hb28)
  replace HQ := Lib.hid (heap_below hb28 HQ.out)
  replace DQ := Lib.hid (DQ.out.below hb28)
  replace HR := Lib.hid (heap_below hb28 HR.out)
  replace DR := Lib.hid (DR.out.below hb28)
  replace ZA := Lib.hid (ZA.out.below hb28)
  replace BW := Lib.hid (BW.out.trans (hb28.mono BW.out.size))
  clear hb28
  have ZG := Lib.hid hN
  clear hN
  obtain ⟨p0P, p1P⟩ := box2 HP.out
  go_wp2_with (fail)
  clear p0P p1P
  refine (count_r DP.out k (by omega) CP.out KP.out).mono ?_
  rintro e w29 ⟨⟨rP, lP, vP, rfl, hN⟩, hb29⟩
  replace HA := Lib.hid (heap_below hb29 HA.out)
  replace DA := Lib.hid (DA.out.below hb29)
  replace HG := Lib.hid (heap_below hb29 HG.out)
  replace DG := Lib.hid (DG.out.below hb29)
  replace HP := Lib.hid (heap_below hb29 HP.out)
  replace DP := Lib.hid (DP.out.below hb29)
  replace HQ := Lib.hid (heap_below hb29 HQ.out)
  replace DQ := Lib.hid (DQ.out.below hb29)
  replace HR := Lib.hid (heap_below hb29 HR.out)
  replace DR := Lib.hid (DR.out.below hb29)
  replace ZA := Lib.hid (ZA.out.below hb29)
  replace ZG := Lib.hid (ZG.out.below hb29)
  replace BW := Lib.hid (BW.out.trans (hb29.mono BW.out.size))
  clear hb29
  have ZP := Lib.hid hN
  clear hN
  obtain ⟨p0Q, p1Q⟩ := box2 HQ.out
  go_wp2_with (fail)
  clear p0Q p1Q
  refine (count_r DQ.out k (by omega) CQ.out KQ.out).mono ?_
  rintro e w30 ⟨⟨rQ, lQ, vQ, rfl, hN⟩, hb30⟩
  replace HA := Lib.hid (heap_below hb30 HA.out)
  replace DA := Lib.hid (DA.out.below hb30)
  replace HG := Lib.hid (heap_below hb30 HG.out)
  replace DG := Lib.hid (DG.out.below hb30)
  replace HP := Lib.hid (heap_below hb30 HP.out)
  replace DP := Lib.hid (DP.out.below hb30)
  replace HQ := Lib.hid (heap_below hb30 HQ.out)
  replace DQ := Lib.hid (DQ.out.below hb30)
  replace HR := Lib.hid (heap_below hb30 HR.out)
  replace DR := Lib.hid (DR.out.below hb30)
  replace ZA := Lib.hid (ZA.out.below hb30)
  replace ZG := Lib.hid (ZG.out.below hb30)
  replace ZP := Lib.hid (ZP.out.below hb30)
  replace BW := Lib.hid (BW.out.trans (hb30.mono BW.out.size))
  clear hb30
  have ZQ := Lib.hid hN
  clear hN
  obtain ⟨p0R, p1R⟩ := box2 HR.out
  go_wp2_with (fail)
  clear p0R p1R
  refine (count_r DR.out k (by omega) CR.out KR.out).mono ?_
  rintro e w31 ⟨⟨rR, lR, vR, rfl, hN⟩, hb31⟩
  replace HA := Lib.hid (heap_below hb31 HA.out)
  replace DA := Lib.hid (DA.out.below hb31)
  replace HG := Lib.hid (heap_below hb31 HG.out)
  replace DG := Lib.hid (DG.out.below hb31)
  replace HP := Lib.hid (heap_below hb31 HP.out)
  replace DP := Lib.hid (DP.out.below hb31)
  replace HQ := Lib.hid (heap_below hb31 HQ.out)
  replace DQ := Lib.hid (DQ.out.below hb31)
  replace HR := Lib.hid (heap_below hb31 HR.out)
  replace DR := Lib.hid (DR.out.below hb31)
  replace ZA := Lib.hid (ZA.out.below hb31)
  replace ZG := Lib.hid (ZG.out.below hb31)
  replace ZP := Lib.hid (ZP.out.below hb31)
  replace ZQ := Lib.hid (ZQ.out.below hb31)
  replace BW := Lib.hid (BW.out.trans (hb31.mono BW.out.size))
  clear hb31
  have ZR := Lib.hid hN
  clear hN
  obtain ⟨p0A, p1A⟩ := box2 HA.out
  go_wp2_with (fail)
  clear p0A p1A
  refine (count_r1 DA.out k (by omega) CM.out KM.out).mono ?_
  rintro e w32 ⟨⟨rM, lM, vM, rfl, hN⟩, hb32⟩
  replace HA := Lib.hid (heap_below hb32 HA.out)
  replace DA := Lib.hid (DA.out.below hb32)
  replace HG := Lib.hid (heap_below hb32 HG.out)
  replace DG := Lib.hid (DG.out.below hb32)
  replace HP := Lib.hid (heap_below hb32 HP.out)
  replace DP := Lib.hid (DP.out.below hb32)
  replace HQ := Lib.hid (heap_below hb32 HQ.out)
  replace DQ := Lib.hid (DQ.out.below hb32)
  replace HR := Lib.hid (heap_below hb32 HR.out)
  replace DR := Lib.hid (DR.out.below hb32)
  replace ZA := Lib.hid (ZA.out.below hb32)
  replace ZG := Lib.hid (ZG.out.below hb32)
  replace ZP := Lib.hid (ZP.out.below hb32)
  replace ZQ := Lib.hid (ZQ.out.below hb32)
  replace ZR := Lib.hid (ZR.out.below hb32)
  replace BW := Lib.hid (BW.out.trans (hb32.mono BW.out.size))
  clear hb32
  have ZM := Lib.hid hN
  clear hN
  go_wp2_with (fail)
  refine (add_r ZA.out ZP.out (s := P) S1.out (by have := L1.out; have := L2.out; have := S1.out; have := S2.out; have := S3.out; omega)).mono ?_
  rintro e w33 ⟨⟨r1, l1, v1, rfl, hN⟩, hb33⟩
  replace HA := Lib.hid (heap_below hb33 HA.out)
  replace DA := Lib.hid (DA.out.below hb33)
  replace HG := Lib.hid (heap_below hb33 HG.out)
  replace DG := Lib.hid (DG.out.below hb33)
  replace HP := Lib.hid (heap_below hb33 HP.out)
  replace DP := Lib.hid (DP.out.below hb33)
  replace HQ := Lib.hid (heap_below hb33 HQ.out)
  replace DQ := Lib.hid (DQ.out.below hb33)
  replace HR := Lib.hid (heap_below hb33 HR.out)
  replace DR := Lib.hid (DR.out.below hb33)
  replace ZA := Lib.hid (ZA.out.below hb33)
  replace ZG := Lib.hid (ZG.out.below hb33)
  replace ZP := Lib.hid (ZP.out.below hb33)
  replace ZQ := Lib.hid (ZQ.out.below hb33)
  replace ZR := Lib.hid (ZR.out.below hb33)
  replace ZM := Lib.hid (ZM.out.below hb33)
  replace BW := Lib.hid (BW.out.trans (hb33.mono BW.out.size))
  clear hb33
  have Y1 := Lib.hid hN
  clear hN
  go_wp2_with (fail)
  refine (add_r ZA.out ZG.out (s := (nQ + nR)) S2.out (by have := L1.out; have := L2.out; have := S1.out; have := S2.out; have := S3.out; omega)).mono ?_
  rintro e w34 ⟨⟨r2, l2, v2, rfl, hN⟩, hb34⟩
  replace HA := Lib.hid (heap_below hb34 HA.out)
  replace DA := Lib.hid (DA.out.below hb34)
  replace HG := Lib.hid (heap_below hb34 HG.out)
  replace DG := Lib.hid (DG.out.below hb34)
  replace HP := Lib.hid (heap_below hb34 HP.out)
  replace DP := Lib.hid (DP.out.below hb34)
  replace HQ := Lib.hid (heap_below hb34 HQ.out)
  replace DQ := Lib.hid (DQ.out.below hb34)
  replace HR := Lib.hid (heap_below hb34 HR.out)
  replace DR := Lib.hid (DR.out.below hb34)
  replace ZA := Lib.hid (ZA.out.below hb34)
  replace ZG := Lib.hid (ZG.out.below hb34)
  replace ZP := Lib.hid (ZP.out.below hb34)
  replace ZQ := Lib.hid (ZQ.out.below hb34)
  replace ZR := Lib.hid (ZR.out.below hb34)
  replace ZM := Lib.hid (ZM.out.below hb34)
  replace Y1 := Lib.hid (Y1.out.below hb34)
  replace BW := Lib.hid (BW.out.trans (hb34.mono BW.out.size))
  clear hb34
  have Y2 := Lib.hid hN
  clear hN
  go_wp2_with (fail)
  refine (add_r ZQ.out ZR.out (s := (nQ + nR)) (rfl) (by have := L1.out; have := L2.out; have := S1.out; have := S2.out; have := S3.out; omega)).mono ?_
  rintro e w35 ⟨⟨r3, l3, v3, rfl, hN⟩, hb35⟩
  replace HA := Lib.hid (heap_below hb35 HA.out)
  replace DA := Lib.hid (DA.out.below hb35)
  replace HG := Lib.hid (heap_below hb35 HG.out)
  replace DG := Lib.hid (DG.out.below hb35)
  replace HP := Lib.hid (heap_below hb35 HP.out)
  replace DP := Lib.hid (DP.out.below hb35)
  replace HQ := Lib.hid (heap_below hb35 HQ.out)
  replace DQ := Lib.hid (DQ.out.below hb35)
  replace HR := Lib.hid (heap_below hb35 HR.out)
  replace DR := Lib.hid (DR.out.below hb35)
  replace ZA := Lib.hid (ZA.out.below hb35)
  replace ZG := Lib.hid (ZG.out.below hb35)
  replace ZP := Lib.hid (ZP.out.below hb35)
  replace ZQ := Lib.hid (ZQ.out.below hb35)
  replace ZR := Lib.hid (ZR.out.below hb35)
  replace ZM := Lib.hid (ZM.out.below hb35)
  replace Y1 := Lib.hid (Y1.out.below hb35)
  replace Y2 := Lib.hid (Y2.out.below hb35)
  replace BW := Lib.hid (BW.out.trans (hb35.mono BW.out.size))
  clear hb35
  have Y3 := Lib.hid hN
  clear hN
  go_wp2_with (fail)
  refine (add_r ZA.out ZA.out (s := nM) S3.out (by have := L1.out; have := L2.out; have := S1.out; have := S2.out; have := S3.out; omega)).mono ?_
  rintro e w36 ⟨⟨r4, l4, v4, rfl, hN⟩, hb36⟩
  replace HA := Lib.hid (heap_below hb36 HA.out)
  replace DA := Lib.hid (DA.out.below hb36)
  replace HG := Lib.hid (heap_below hb36 HG.out)
  replace DG := Lib.hid (DG.out.below hb36)
  replace HP := Lib.hid (heap_below hb36 HP.out)
  replace DP := Lib.hid (DP.out.below hb36)
  replace HQ := Lib.hid (heap_below hb36 HQ.out)
  replace DQ := Lib.hid (DQ.out.below hb36)
  replace HR := Lib.hid (heap_below hb36 HR.out)
  replace DR := Lib.hid (DR.out.below hb36)
  replace ZA := Lib.hid (ZA.out.below hb36)
  replace ZG := Lib.hid (ZG.out.below hb36)
  replace ZP := Lib.hid (ZP.out.below hb36)
  replace ZQ := Lib.hid (ZQ.out.below hb36)
  replace ZR := Lib.hid (ZR.out.below hb36)
  replace ZM := Lib.hid (ZM.out.below hb36)
  replace Y1 := Lib.hid (Y1.out.below hb36)
  replace Y2 := Lib.hid (Y2.out.below hb36)
  replace Y3 := Lib.hid (Y3.out.below hb36)
  replace BW := Lib.hid (BW.out.trans (hb36.mono BW.out.size))
  clear hb36
  have Y4 := Lib.hid hN
  clear hN
  go_wp2_with (fail)
  refine (of_r w36 P hPl).mono ?_
  rintro e w37 ⟨⟨r5, l5, v5, rfl, hN⟩, hb37⟩
  replace HA := Lib.hid (heap_below hb37 HA.out)
  replace DA := Lib.hid (DA.out.below hb37)
  replace HG := Lib.hid (heap_below hb37 HG.out)
  replace DG := Lib.hid (DG.out.below hb37)
  replace HP := Lib.hid (heap_below hb37 HP.out)
  replace DP := Lib.hid (DP.out.below hb37)
  replace HQ := Lib.hid (heap_below hb37 HQ.out)
  replace DQ := Lib.hid (DQ.out.below hb37)
  replace HR := Lib.hid (heap_below hb37 HR.out)
  replace DR := Lib.hid (DR.out.below hb37)
  replace ZA := Lib.hid (ZA.out.below hb37)
  replace ZG := Lib.hid (ZG.out.below hb37)
  replace ZP := Lib.hid (ZP.out.below hb37)
  replace ZQ := Lib.hid (ZQ.out.below hb37)
  replace ZR := Lib.hid (ZR.out.below hb37)
  replace ZM := Lib.hid (ZM.out.below hb37)
  replace Y1 := Lib.hid (Y1.out.below hb37)
  replace Y2 := Lib.hid (Y2.out.below hb37)
  replace Y3 := Lib.hid (Y3.out.below hb37)
  replace Y4 := Lib.hid (Y4.out.below hb37)
  replace BW := Lib.hid (BW.out.trans (hb37.mono BW.out.size))
  clear hb37
  have Y5 := Lib.hid hN
  clear hN
  go_wp2_with (fail)
  refine (compare_r Y1.out Y5.out (by have := L1.out; have := L2.out; have := S1.out; have := S2.out; have := S3.out; omega)).mono ?_
  rintro e w38 ⟨rfl, hb38⟩
  replace HA := Lib.hid (heap_below hb38 HA.out)
  replace DA := Lib.hid (DA.out.below hb38)
  replace HG := Lib.hid (heap_below hb38 HG.out)
  replace DG := Lib.hid (DG.out.below hb38)
  replace HP := Lib.hid (heap_below hb38 HP.out)
  replace DP := Lib.hid (DP.out.below hb38)
  replace HQ := Lib.hid (heap_below hb38 HQ.out)
  replace DQ := Lib.hid (DQ.out.below hb38)
  replace HR := Lib.hid (heap_below hb38 HR.out)
  replace DR := Lib.hid (DR.out.below hb38)
  replace ZA := Lib.hid (ZA.out.below hb38)
  replace ZG := Lib.hid (ZG.out.below hb38)
  replace ZP := Lib.hid (ZP.out.below hb38)
  replace ZQ := Lib.hid (ZQ.out.below hb38)
  replace ZR := Lib.hid (ZR.out.below hb38)
  replace ZM := Lib.hid (ZM.out.below hb38)
  replace Y1 := Lib.hid (Y1.out.below hb38)
  replace Y2 := Lib.hid (Y2.out.below hb38)
  replace Y3 := Lib.hid (Y3.out.below hb38)
  replace Y4 := Lib.hid (Y4.out.below hb38)
  replace Y5 := Lib.hid (Y5.out.below hb38)
  replace BW := Lib.hid (BW.out.trans (hb38.mono BW.out.size))
  clear hb38
  go_wp2_with (fail)
  refine (compare_r Y2.out Y3.out (by have := L1.out; have := L2.out; have := S1.out; have := S2.out; have := S3.out; omega)).mono ?_
  rintro e w39 ⟨rfl, hb39⟩
  replace HA := Lib.hid (heap_below hb39 HA.out)
  replace DA := Lib.hid (DA.out.below hb39)
  replace HG := Lib.hid (heap_below hb39 HG.out)
  replace DG := Lib.hid (DG.out.below hb39)
  replace HP := Lib.hid (heap_below hb39 HP.out)
  replace DP := Lib.hid (DP.out.below hb39)
  replace HQ := Lib.hid (heap_below hb39 HQ.out)
  replace DQ := Lib.hid (DQ.out.below hb39)
  replace HR := Lib.hid (heap_below hb39 HR.out)
  replace DR := Lib.hid (DR.out.below hb39)
  replace ZA := Lib.hid (ZA.out.below hb39)
  replace ZG := Lib.hid (ZG.out.below hb39)
  replace ZP := Lib.hid (ZP.out.below hb39)
  replace ZQ := Lib.hid (ZQ.out.below hb39)
  replace ZR := Lib.hid (ZR.out.below hb39)
  replace ZM := Lib.hid (ZM.out.below hb39)
  replace Y1 := Lib.hid (Y1.out.below hb39)
  replace Y2 := Lib.hid (Y2.out.below hb39)
  replace Y3 := Lib.hid (Y3.out.below hb39)
  replace Y4 := Lib.hid (Y4.out.below hb39)
  replace Y5 := Lib.hid (Y5.out.below hb39)
  replace BW := Lib.hid (BW.out.trans (hb39.mono BW.out.size))
  clear hb39
  go_wp2_with (fail)
  refine (compare_r Y4.out ZM.out (by have := L1.out; have := L2.out; have := S1.out; have := S2.out; have := S3.out; omega)).mono ?_
  rintro e w40 ⟨rfl, hb40⟩
  replace HA := Lib.hid (heap_below hb40 HA.out)
  replace DA := Lib.hid (DA.out.below hb40)
  replace HG := Lib.hid (heap_below hb40 HG.out)
  replace DG := Lib.hid (DG.out.below hb40)
  replace HP := Lib.hid (heap_below hb40 HP.out)
  replace DP := Lib.hid (DP.out.below hb40)
  replace HQ := Lib.hid (heap_below hb40 HQ.out)
  replace DQ := Lib.hid (DQ.out.below hb40)
  replace HR := Lib.hid (heap_below hb40 HR.out)
  replace DR := Lib.hid (DR.out.below hb40)
  replace ZA := Lib.hid (ZA.out.below hb40)
  replace ZG := Lib.hid (ZG.out.below hb40)
  replace ZP := Lib.hid (ZP.out.below hb40)
  replace ZQ := Lib.hid (ZQ.out.below hb40)
  replace ZR := Lib.hid (ZR.out.below hb40)
  replace ZM := Lib.hid (ZM.out.below hb40)
  replace Y1 := Lib.hid (Y1.out.below hb40)
  replace Y2 := Lib.hid (Y2.out.below hb40)
  replace Y3 := Lib.hid (Y3.out.below hb40)
  replace Y4 := Lib.hid (Y4.out.below hb40)
  replace Y5 := Lib.hid (Y5.out.below hb40)
  replace BW := Lib.hid (BW.out.trans (hb40.mono BW.out.size))
  clear hb40
  go_wp2_with (fail)
  go_ret
  exact ⟨by rfl, BW.out⟩

end Go.Proofs.Ytohmibmakelclaa

namespace Go.Proofs.Ytohmibmakelclaa.diagramCountsDone
set_option linter.unusedVariables false
set_option linter.unusedSimpArgs false
open Go.ChangeShapes Go.WideShapes Go.ChangeAt Go.RowKit Go.Proofs.Ytohmibmakelclaa

theorem own : ownKnob Try.prog.godebug = none := by kernel_rfl
theorem laidOut : laidOutB Try.prog = true := by kernel_rfl

set_option maxRecDepth 100000 in
theorem lifted (os : Os) (started : os.Started) (H : Type) (enc : TypeId × Value → H) :
    ReturnsInHanded {} Try.checked os 10 .any (Rows.diagramCountsSpec.pre6 enc Try.prog Try.f10 Rows.diagramCountsRow.domain false) (Rows.diagramCountsSpec.post enc Try.prog Try.f10 false true false false) := by
  refine returnsInHanded_of_change (C := Try.checked) own started (by kernel_rfl) Try.func10
    (ChangeSpec.witness6 (enc := enc) (C := Try.checked) false ⟨#[], #[.agg #[.slice none 0 0, .int .u8 0], .agg #[.slice none 0 0, .int .u8 0], .int .u8 0], []⟩ 8 (by kernel_rfl) (by kernel_rfl) (by kernel_rfl) (by kernel_rfl)) ?_
  intro W base args ds gs before hval0 hW hcnd _
  have hval : ∀ (j : Nat) t v, Try.f10.params[j]? = some t → args[j]? = some v → Value.okWide Try.prog W .any base t v := hval0
  have hW' := hW
  obtain ⟨p, q, hA0, hV, rfl, hfz, hnd⟩ := hW
  have hA : DataW.TrodAll enc Try.prog W 0 (fun _ => true) true Try.f10.params.toList args.toList ds p := hA0
  rw [Try.params10] at hA hval
  obtain ⟨v0, vs0, d0, ds0, p0, q0, hargs, rfl, rfl, h0, r0⟩ := trodAll_cons hA
  obtain ⟨v1, vs1, d1, ds1, p1, q1, rfl, rfl, rfl, h1, r1⟩ := trodAll_cons r0
  obtain ⟨v2, vs2, d2, ds2, p2, q2, rfl, rfl, rfl, h2, r2⟩ := trodAll_cons r1
  obtain ⟨rfl, rfl, rfl⟩ := trodAll_nil r2
  obtain rfl : args = #[v0, v1, v2] := by cases args; simp_all
  obtain ⟨rfl, rfl⟩ := trodVars_none hV
  obtain ⟨c0, rfl, hc0⟩ := okWide_struct Try.underlying24 (hval 0 24 v0 rfl rfl)
  have k0 := h0
  have lt0 : ∀ x ∈ p0, x.block < W.heap.size := by obtain ⟨m, hm⟩ := k0; exact DataW.trod_lt m _ _ _ hm
  obtain ⟨fuel0, hf0⟩ := h0
  obtain ⟨u0, x0, N0, hu0, S0⟩ := open_set hf0 (by simpa [Value.cells] using hc0.trans (by kernel_rfl))
  obtain rfl : c0 = #[u0, .int .u8 (N0 : Int)] := by cases c0; simpa [Value.cells] using hu0
  obtain ⟨c1, rfl, hc1⟩ := okWide_struct Try.underlying24 (hval 1 24 v1 rfl rfl)
  have k1 := h1
  have lt1 : ∀ x ∈ p1, x.block < W.heap.size := by obtain ⟨m, hm⟩ := k1; exact DataW.trod_lt m _ _ _ hm
  obtain ⟨fuel1, hf1⟩ := h1
  obtain ⟨u1, x1, N1, hu1, S1⟩ := open_set hf1 (by simpa [Value.cells] using hc1.trans (by kernel_rfl))
  obtain rfl : c1 = #[u1, .int .u8 (N1 : Int)] := by cases c1; simpa [Value.cells] using hu1
  obtain ⟨a2, rfl, rfl, rfl, w2⟩ := open_int Try.underlying5 (hval 2 5 v2 rfl rfl) h2
  clear hA0 hval0
  refine (countsLaw W _ _ x0 x1 N0 N1 S0 S1 a2 (Go.bounds_u8 w2)).mono fun e W' ⟨he, bel⟩ => ?_
  subst he
  exact ⟨_, rfl, _, _, _, [], _, [], hW', trodAll_mk1 (shut_bool Try.underlying4 _), (trodAll_cons_mk (Below.trod laidOut (by kernel_rfl) (of_decide_eq_true (by kernel_rfl)) k0 bel lt0) (trodAll_cons_mk (Below.trod laidOut (by kernel_rfl) (of_decide_eq_true (by kernel_rfl)) k1 bel lt1) (trodAll_cons_mk (shut_int Try.underlying5 w2) trodAll_mk0))), rfl, bel.frame _, fun h => by cases h⟩

theorem over : Rows.diagramCountsRow.holds Try.pinned (OpenSpec.ofChange Rows.diagramCountsSpec) :=
  OpenClaim.holds_of_wide 10 Try.f10 rfl rfl rfl rfl rfl rfl rfl ⟨rfl, rfl, rfl, rfl, rfl⟩ rfl rfl rfl rfl rfl (by kernel_rfl) Try.func10 (by kernel_rfl)
    (of_decide_eq_true (by kernel_rfl)) (by unfold Func.isWrapper; first | (rw [if_pos (by decide +kernel)]; kernel_rfl) | (rw [if_neg (by decide +kernel)]; exact ⟨rfl, rfl⟩))
    (fun os started H enc _ => lifted os started H enc)

theorem proved : Rows.DiagramCountsSaid := over
#print axioms proved
end Go.Proofs.Ytohmibmakelclaa.diagramCountsDone
