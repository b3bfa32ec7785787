/-
  DiagramLeast: the walk.
  No condition.
-/
import Derived.Test.YtohmibmakelclaaPkQ
import Derived.Test.YtohmibmakelclaaPkR
import Derived.Laws.BitsAllLaws
import Derived.WalkKit
import Derived.ProofKit
import Derived.OpenShut
namespace Go.Proofs.Ytohmibmakelclaa
set_option linter.unusedVariables false
set_option linter.unusedSimpArgs false
open Go.RowKit

/-- The diagram of a set of few conditions. -/
theorem SetOf.td {w w' : World} {e : Ending} {n : Nat} (h : SetOf w w' e n) (hn : n ≤ 6) : ∃ (a : Option Addr) (c : Nat) (t : T), e = .returned (dval a c t) ∧ TD w' (dval a c t) t ∧ t.bel n := by
  obtain ⟨a, c, t, rfl, ok, bl, hM⟩ := h
  exact ⟨a, c, t, rfl, ⟨hM NoB (fun b h => h.elim), ok, Nat.le_trans (ok.small bl hn) (by decide)⟩, bl⟩

set_option maxRecDepth 100000 in
set_option maxHeartbeats 4000000 in
theorem leastLaw (w : World) (v : Value) (xs : List Int) (N : Nat) (hs : SetAt w v xs N) :
    Calls Try.prog 8 #[v] w fun e w' => e = .returned (.bool true) ∧ Below w.heap.size w w' := by
  obtain ⟨a, c, rfl⟩ := hs.shape
  obtain ⟨w0, b0, e0, hb0, z0, h0, B0⟩ := laid w #[.slice a xs.length c, .int .u8 (N : Int)] 24
  have BW : Hid (Below w.heap.size w w0) := B0
  have K : Hid (w0.heap[b0]? = some (.cells #[.slice a xs.length c, .int .u8 (N : Int)] 24 (0, 0))) := h0
  have HS := Lib.hid (hs.below B0)
  clear h0 B0 hs
  go_enter Try.func8, Try.ntmps8
  go_wp2_with (fail)
  refine (sanity_any w0).mono ?_
  rintro e w1 ⟨rfl, hb1⟩
  replace HS := Lib.hid (HS.out.below hb1)
  replace BW := Lib.hid (BW.out.trans (hb1.mono BW.out.size))
  replace K := Lib.hid (heap_below hb1 K.out)
  clear hb1
  obtain ⟨k0, k1⟩ := box2v K.out
  go_wp2_with (fail)
  refine (lmade_any w1 _ xs N HS.out).mono ?_
  rintro e w2 ⟨hR, hb2⟩
  obtain ⟨aA, cA, tA, rfl, tdA, blA⟩ := hR.td (by omega)
  have BL := Lib.hid blA
  clear blA hR k0 k1
  obtain ⟨w3, bA, eA, hBA, -, hA, BA⟩ := laid w2 #[.slice aA tA.canon.nodes.length cA, .int .i64 tA.canon.root] 28
  have BB := hb2.trans (BA.mono hb2.size)
  replace HS := Lib.hid (HS.out.below BB)
  replace BW := Lib.hid (BW.out.trans (BB.mono BW.out.size))
  replace K := Lib.hid (heap_below BB K.out)
  have HA := Lib.hid hA; have DA := Lib.hid (tdA.below BA)
  clear hb2 hA BA BB tdA
  clear K HS
  obtain ⟨p0A, p1A⟩ := box2 HA.out
  go_wp2_with (with_reducible refine wpList_store_last rfl 28 (.tmp 4) (.tmp 10) rfl dg0 #[.slice aA tA.canon.nodes.length cA, .int .i64 tA.canon.root] rfl rfl sizedg rfl (by simp [Value.oneCell']) ?_)
  clear p0A p1A eA hBA
  refine (least_t DA.out).mono ?_
  rintro e w4 ⟨rfl, hb4⟩
  replace HA := Lib.hid (heap_below hb4 HA.out)
  replace DA := Lib.hid (DA.out.below hb4)
  replace BW := Lib.hid (BW.out.trans (hb4.mono BW.out.size))
  clear hb4
  by_cases hl : tA = .leaf false
  · rw [if_pos hl]
    subst hl
    simp only [ne_eq, not_true_eq_false, decide_false, Int.natCast_zero]
    go_wp2_with (fail)
    have HAd : Hid (w4.drew.heap[bA]? = some (.cells #[.slice aA (T.leaf false).canon.nodes.length cA, .int .i64 (T.leaf false).canon.root] 28 (0, 0))) := HA.out
    have DAd := Lib.hid (DA.out.below (Below.refl _ w4).drew)
    have BWd := Lib.hid (BW.out.drew)
    refine wp_region_held_drew (S := fun w' => w'.cell? ⟨bA, 0, none⟩ = some (.slice aA (T.leaf false).canon.nodes.length cA) ∧ w'.cell? ⟨bA, 1, none⟩ = some (.int .i64 (T.leaf false).canon.root)) (by kernel_rfl) (box2 HAd.out) (fun hS => ?_)
    refine wpAnyH_take (i := 0) (v := (dval aA cA (T.leaf false))) rfl (by kernel_rfl) (by kernel_rfl) (by kernel_rfl) (fun _ _ _ h => h) (Or.inl ⟨by rfl, ?_⟩) hS ?_
    · intro w hSw
      go_split_ands
      go_simp
    try simp only [Act.put, List.getElem_toArray, List.getElem_cons_zero, List.getElem_cons_succ, List.setIfInBounds_toArray, List.set_cons_zero, List.set_cons_succ]
    refine wpAnyH_ready (rs := [1]) (by kernel_rfl) (by simp) ?_
    refine AllReadyH.cons rfl (fun K hK => ?_) AllReadyH.nil
    try simp only [Act.put, List.getElem_toArray, List.getElem_cons_zero, List.getElem_cons_succ, List.setIfInBounds_toArray, List.set_cons_zero, List.set_cons_succ]
    go_simp
    refine (constant_t w4.drew false).mono ?_
    rintro e w8 ⟨⟨aC, cC, rfl, tdC⟩, hb8⟩
    have HA8 := Lib.hid (heap_below hb8 HAd.out); have DA8 := Lib.hid (DAd.out.below hb8); have TC := Lib.hid tdC
    have BW8 := Lib.hid (BWd.out.trans (hb8.mono BWd.out.size))
    clear hb8 tdC
    refine hK.out _ _ (box2 HA8.out) (fun hS => ?_)
    clear hK K
    try simp only [Act.put, List.getElem_toArray, List.getElem_cons_zero, List.getElem_cons_succ, List.setIfInBounds_toArray, List.set_cons_zero, List.set_cons_succ]
    refine wpAnyH_ready (rs := [2]) (by kernel_rfl) (by simp) ?_
    refine AllReadyH.cons rfl (fun K hK => ?_) AllReadyH.nil
    try simp only [Act.put, List.getElem_toArray, List.getElem_cons_zero, List.getElem_cons_succ, List.setIfInBounds_toArray, List.set_cons_zero, List.set_cons_succ]
    go_simp
    refine (same_t DA8.out TC.out).mono ?_
    rintro e w9 ⟨rfl, hb9⟩
    rw [show decide (T.leaf false = T.leaf false) = true by simp]
    have HA9 := Lib.hid (heap_below hb9 HA8.out)
    have BW9 := Lib.hid (BW8.out.trans (hb9.mono BW8.out.size))
    clear hb9
    refine hK.out _ _ (box2 HA9.out) (fun hS => ?_)
    clear hK K
    try simp only [Act.put, List.getElem_toArray, List.getElem_cons_zero, List.getElem_cons_succ, List.setIfInBounds_toArray, List.set_cons_zero, List.set_cons_succ]
    refine wpAnyH_take (i := 3) (v := .bool true) rfl (by kernel_rfl) (by kernel_rfl) (by kernel_rfl) (fun _ _ _ h => h) (Or.inl ⟨by rfl, ?_⟩) hS ?_
    · intro w hSw
      go_split_ands
      go_simp
    try simp only [Act.put, List.getElem_toArray, List.getElem_cons_zero, List.getElem_cons_succ, List.setIfInBounds_toArray, List.set_cons_zero, List.set_cons_succ]
    refine wpAnyH_take (i := 4) (v := .int .u64 0) rfl (by kernel_rfl) (by kernel_rfl) (by kernel_rfl) (fun _ _ _ h => h) (Or.inl ⟨by rfl, ?_⟩) hS ?_
    · intro w hSw
      go_split_ands
      go_simp
    try simp only [Act.put, List.getElem_toArray, List.getElem_cons_zero, List.getElem_cons_succ, List.setIfInBounds_toArray, List.set_cons_zero, List.set_cons_succ]
    refine wpAnyH_take (i := 5) (v := .bool true) rfl (by kernel_rfl) (by kernel_rfl) (by kernel_rfl) (fun _ _ _ h => h) (Or.inl ⟨by rfl, ?_⟩) hS ?_
    · intro w hSw
      go_split_ands
      go_simp
    try simp only [Act.put, List.getElem_toArray, List.getElem_cons_zero, List.getElem_cons_succ, List.setIfInBounds_toArray, List.set_cons_zero, List.set_cons_succ]
    refine wpAnyH_take (i := 6) (v := .bool true) rfl (by kernel_rfl) (by kernel_rfl) (by kernel_rfl) (fun _ _ _ h => h) (Or.inl ⟨by rfl, ?_⟩) hS ?_
    · intro w hSw
      go_split_ands
      go_simp
    try simp only [Act.put, List.getElem_toArray, List.getElem_cons_zero, List.getElem_cons_succ, List.setIfInBounds_toArray, List.set_cons_zero, List.set_cons_succ]
    refine wpAnyH_take (i := 7) (v := .bool true) rfl (by kernel_rfl) (by kernel_rfl) (by kernel_rfl) (fun _ _ _ h => h) (Or.inl ⟨by rfl, ?_⟩) hS ?_
    · intro w hSw
      go_split_ands
      go_simp
    try simp only [Act.put, List.getElem_toArray, List.getElem_cons_zero, List.getElem_cons_succ, List.setIfInBounds_toArray, List.set_cons_zero, List.set_cons_succ]
    refine wpAnyH_take (i := 8) (v := .bool true) rfl (by kernel_rfl) (by kernel_rfl) (by kernel_rfl) (fun _ _ _ h => h) (Or.inl ⟨by rfl, ?_⟩) hS ?_
    · intro w hSw
      go_split_ands
      go_simp
    try simp only [Act.put, List.getElem_toArray, List.getElem_cons_zero, List.getElem_cons_succ, List.setIfInBounds_toArray, List.set_cons_zero, List.set_cons_succ]
    refine wpAnyH_take (i := 9) (v := .bool true) rfl (by kernel_rfl) (by kernel_rfl) (by kernel_rfl) (fun _ _ _ h => h) (Or.inl ⟨by rfl, ?_⟩) hS ?_
    · intro w hSw
      go_split_ands
      go_simp
    try simp only [Act.put, List.getElem_toArray, List.getElem_cons_zero, List.getElem_cons_succ, List.setIfInBounds_toArray, List.set_cons_zero, List.set_cons_succ]
    refine wpAnyH_ready (rs := [10]) (by kernel_rfl) (by simp) ?_
    refine AllReadyH.cons rfl (fun K hK => ?_) AllReadyH.nil
    try simp only [Act.put, List.getElem_toArray, List.getElem_cons_zero, List.getElem_cons_succ, List.setIfInBounds_toArray, List.set_cons_zero, List.set_cons_succ]
    go_simp
    refine hK.out _ _ (box2 HA9.out) (fun hS => ?_)
    clear hK K
    try simp only [Act.put, List.getElem_toArray, List.getElem_cons_zero, List.getElem_cons_succ, List.setIfInBounds_toArray, List.set_cons_zero, List.set_cons_succ]
    refine wpAnyH_done (by kernel_rfl) ?_ _
    try simp only [Act.put, List.getElem_toArray, List.getElem_cons_zero, List.getElem_cons_succ, List.setIfInBounds_toArray, List.set_cons_zero, List.set_cons_succ]
    clear hS
    go_wp2_with (fail)
    go_ret
    exact ⟨by rfl, BW9.out⟩
  · have hd : decide (tA ≠ .leaf false) = true := by simpa using hl
    rw [if_neg hl, hd]
    have hl6 : tA.lst < 64 := Nat.lt_of_lt_of_le (T.lst_small tA BL.out) (show 2 ^ (N % 7) ≤ 2 ^ 6 from Nat.pow_le_pow_right (by omega) (by omega))
    have hmin := T.lst_le tA DA.out.ok
    have hin := T.lst_in tA DA.out.ok hl
    obtain ⟨m, hm⟩ : ∃ m, tA.lst = m := ⟨_, rfl⟩
    rw [hm] at hl6 hmin hin ⊢
    have HMIN := Lib.hid hmin; have HIN := Lib.hid hin
    have hm0 : (0 : Int) ≤ (m : Int) := by omega
    have hm1 : (m : Int) < 64 := by omega
    have B0' : Hid (Below w4.heap.size w4 w4) := Below.refl _ _
    clear hl hd hmin hin hm
    go_wp2_with (fail)
    go_loopw [7] (fun i wr => ∃ j : Nat, j ≤ m ∧ i = .int .u64 j ∧ Hid (Below w4.heap.size w4 wr)) (fun i _ => m - (intOf i).toNat)
    case atStart => exact ⟨0, Nat.zero_le _, rfl, B0'⟩
    case round =>
      clear B0'
      obtain ⟨j, hj, rfl, BR⟩ := hrel
      obtain ⟨x0, x1⟩ := box2 (heap_below BR.out HA.out)
      by_cases hlt : j < m
      · have hj1 : (j : Int) < (m : Int) := by omega
        have hj2 : (j : Int) < 64 := by omega
        have hev : tA.ev (bits j) = false := by
          cases h : tA.ev (bits j) with
          | false => rfl
          | true => have := HMIN.out j h; omega
        have HC := Lib.hid (holds_k (DA.out.below BR.out) j (by omega) false hev)
        clear hev
        go_wp2_with (fail)
        refine HC.out.mono ?_
        rintro e w9 ⟨rfl, hb9⟩
        have BR9 := Lib.hid (BR.out.trans (hb9.mono BR.out.size))
        clear hb9 x0 x1 HC
        go_wp2_with (fail)
        go_roundw
        case rel => exact ⟨j + 1, by omega, by go_num, BR9⟩
        case measure => simp [intOf]; omega
      · obtain rfl : j = m := by omega
        have HC := Lib.hid (holds_k (DA.out.below BR.out) j (by omega) true HIN.out)
        go_wp2_with (fail)
        refine HC.out.mono ?_
        rintro e w9 ⟨rfl, hb9⟩
        have BF := Lib.hid (BW.out.trans ((BR.out.trans (hb9.mono BR.out.size)).mono BW.out.size))
        clear hb9 x0 x1 HC
        go_wp2_with (fail)
        go_ret
        exact ⟨by rfl, BF.out⟩

end Go.Proofs.Ytohmibmakelclaa

namespace Go.Proofs.Ytohmibmakelclaa
set_option linter.unusedVariables false
set_option linter.unusedSimpArgs false
open Go.RowKit

theorem upd_same (x : Nat → Bool) (v : Nat) : upd x v (x v) = x := by
  funext i; unfold upd; split
  · rename_i h; rw [h]
  · rfl
theorem upd_upd (x : Nat → Bool) (v : Nat) (a b : Bool) : upd (upd x v a) v b = upd x v b := by
  funext i; unfold upd; split <;> rfl
theorem same_k {w : World} {va vb : Value} {t : T} (ha : TD w va t) (hb : TD w vb t) : Calls Try.prog 24 #[va, vb] w fun e w' => e = .returned (.bool true) ∧ Below w.heap.size w w' := by
  refine (same_t ha hb).mono ?_
  rintro e w' ⟨rfl, hbl⟩
  exact ⟨by simp, hbl⟩
theorem back_ev {t h l : T} {v : Nat} (hh : ∀ x, h.ev x = t.ev (upd x v true)) (hl : ∀ x, l.ev x = t.ev (upd x v false)) (x : Nat → Bool) : t.ev x = ((litT v).ev x && h.ev x || !(litT v).ev x && l.ev x) := by
  rw [hh, hl]
  have e : (litT v).ev x = x v := by simp [T.ev]
  rw [e]
  have := upd_same x v
  cases hx : x v <;> rw [hx] at this <;> simp [this]

set_option maxRecDepth 100000 in
set_option maxHeartbeats 4000000 in
theorem expansionLaw (w : World) (v : Value) (xs : List Int) (N : Nat) (hs : SetAt w v xs N) (q : Int) (hq : 0 ≤ q ∧ q ≤ 255) :
    Calls Try.prog 7 #[v, .int .u8 q] w fun e w' => e = .returned (.bool true) ∧ Below w.heap.size w w' := by
  obtain ⟨a, c, rfl⟩ := hs.shape
  obtain ⟨w0, b0, e0, hb0, z0, h0, B0⟩ := laid w #[.slice a xs.length c, .int .u8 (N : Int)] 24
  have BW : Hid (Below w.heap.size w w0) := B0
  have K : Hid (w0.heap[b0]? = some (.cells #[.slice a xs.length c, .int .u8 (N : Int)] 24 (0, 0))) := h0
  have HS := Lib.hid (hs.below B0)
  obtain ⟨v, hv⟩ : ∃ v : Nat, q.tmod 64 = v := ⟨(q % 64).toNat, by rw [Int.tmod_eq_emod_of_nonneg hq.1]; omega⟩
  have hv6 : v ≤ 63 := by rw [Int.tmod_eq_emod_of_nonneg hq.1] at hv; omega
  have hvi : (0 : Int) ≤ v ∧ (v : Int) ≤ 63 := by omega
  clear h0 B0 hs
  go_enter Try.func7, Try.ntmps7
  go_wp2_with (fail)
  refine (sanity_any w0).mono ?_
  rintro e w1 ⟨rfl, hb1⟩
  replace HS := Lib.hid (HS.out.below hb1)
  replace BW := Lib.hid (BW.out.trans (hb1.mono BW.out.size))
  replace K := Lib.hid (heap_below hb1 K.out)
  clear hb1
  obtain ⟨k0, k1⟩ := box2v K.out
  go_wp2_with (fail)
  refine (lmade_any w1 _ xs N HS.out).mono ?_
  rintro e w2 ⟨hR, hb2⟩
  obtain ⟨aA, cA, tA, rfl, tdA, blA⟩ := hR.td (by omega)
  have DP : Hid (Dep 6 tA.ev) := T.dep (T.bel_mono blA (by omega))
  clear blA hR k0 k1
  obtain ⟨w3, bA, eA, hBA, -, hA, BA⟩ := laid w2 #[.slice aA tA.canon.nodes.length cA, .int .i64 tA.canon.root] 28
  have BB := hb2.trans (BA.mono hb2.size)
  replace HS := Lib.hid (HS.out.below BB)
  replace BW := Lib.hid (BW.out.trans (BB.mono BW.out.size))
  replace K := Lib.hid (heap_below BB K.out)
  have HA := Lib.hid hA; have DA := Lib.hid (tdA.below BA)
  clear hb2 hA BA BB tdA
  clear K HS
  obtain ⟨p0A, p1A⟩ := box2 HA.out
  go_wp2_with (with_reducible refine wpList_store_last rfl 28 (.tmp 6) (.tmp 25) rfl dg0 #[.slice aA tA.canon.nodes.length cA, .int .i64 tA.canon.root] rfl rfl sizedg rfl (by simp [Value.oneCell']) ?_)
  clear p0A p1A eA hBA
  refine (restrict_t DA.out v hv6 true (few_of_dep (DP.out.res v true))).mono ?_
  rintro e w4 ⟨hR, hb4⟩
  obtain ⟨aH, cH, tH, rfl, evH, tdH, -⟩ := hR
  have EH := Lib.hid evH
  obtain ⟨w5, bH, eH, hBH, -, hH, BH⟩ := laid w4 #[.slice aH tH.canon.nodes.length cH, .int .i64 tH.canon.root] 28
  have BB := hb4.trans (BH.mono hb4.size)
  replace HA := Lib.hid (heap_below BB HA.out)
  replace DA := Lib.hid (DA.out.below BB)
  replace BW := Lib.hid (BW.out.trans (BB.mono BW.out.size))
  have HH := Lib.hid hH; have DH := Lib.hid (tdH.below BH)
  clear hb4 hH BH BB tdH
  clear evH
  obtain ⟨p0A, p1A⟩ := box2 HA.out
  go_wp2_with (with_reducible refine wpList_store_last rfl 28 (.tmp 8) (.tmp 33) rfl dg0 #[.slice aH tH.canon.nodes.length cH, .int .i64 tH.canon.root] rfl rfl sizedg rfl (by simp [Value.oneCell']) ?_)
  clear p0A p1A eH hBH
  refine (restrict_t DA.out v hv6 false (few_of_dep (DP.out.res v false))).mono ?_
  rintro e w6 ⟨hR, hb6⟩
  obtain ⟨aL, cL, tL, rfl, evL, tdL, -⟩ := hR
  have EL := Lib.hid evL
  obtain ⟨w7, bL, eL, hBL, -, hL, BL⟩ := laid w6 #[.slice aL tL.canon.nodes.length cL, .int .i64 tL.canon.root] 28
  have BB := hb6.trans (BL.mono hb6.size)
  replace HA := Lib.hid (heap_below BB HA.out)
  replace DA := Lib.hid (DA.out.below BB)
  replace HH := Lib.hid (heap_below BB HH.out)
  replace DH := Lib.hid (DH.out.below BB)
  replace BW := Lib.hid (BW.out.trans (BB.mono BW.out.size))
  have HL := Lib.hid hL; have DL := Lib.hid (tdL.below BL)
  clear hb6 hL BL BB tdL
  clear evL
  obtain ⟨p0A, p1A⟩ := box2 HA.out
  go_wp2_with (with_reducible refine wpList_store_last rfl 28 (.tmp 10) (.tmp 39) rfl dg0 #[.slice aL tL.canon.nodes.length cL, .int .i64 tL.canon.root] rfl rfl sizedg rfl (by simp [Value.oneCell']) ?_)
  clear p0A p1A eL hBL
  refine (exists_t DA.out v hv6 (few_of_dep ((DP.out.res v false).or (DP.out.res v true)))).mono ?_
  rintro e w8 ⟨hR, hb8⟩
  obtain ⟨aC, cC, tC, rfl, evC, tdC, -⟩ := hR
  have EC := Lib.hid evC
  obtain ⟨w9, bC, eC, hBC, -, hC, BC⟩ := laid w8 #[.slice aC tC.canon.nodes.length cC, .int .i64 tC.canon.root] 28
  have BB := hb8.trans (BC.mono hb8.size)
  replace HA := Lib.hid (heap_below BB HA.out)
  replace DA := Lib.hid (DA.out.below BB)
  replace HH := Lib.hid (heap_below BB HH.out)
  replace DH := Lib.hid (DH.out.below BB)
  replace HL := Lib.hid (heap_below BB HL.out)
  replace DL := Lib.hid (DL.out.below BB)
  replace BW := Lib.hid (BW.out.trans (BB.mono BW.out.size))
  have HC := Lib.hid hC; have DC := Lib.hid (tdC.below BC)
  clear hb8 hC BC BB tdC
  clear evC
  go_wp2_with (with_reducible refine wpList_store_last rfl 28 (.tmp 12) (.tmp 45) rfl dg0 #[.slice aC tC.canon.nodes.length cC, .int .i64 tC.canon.root] rfl rfl sizedg rfl (by simp [Value.oneCell']) ?_)
  clear eC hBC
  refine (var_t w9 v hv6).mono ?_
  rintro e w10 ⟨⟨aX, cX, rfl, tdX, -⟩, hb10⟩
  obtain ⟨w11, bX, eX, hBX, -, hX, BX⟩ := laid w10 #[.slice aX (litT v).canon.nodes.length cX, .int .i64 (litT v).canon.root] 28
  have BB := hb10.trans (BX.mono hb10.size)
  replace HA := Lib.hid (heap_below BB HA.out)
  replace DA := Lib.hid (DA.out.below BB)
  replace HH := Lib.hid (heap_below BB HH.out)
  replace DH := Lib.hid (DH.out.below BB)
  replace HL := Lib.hid (heap_below BB HL.out)
  replace DL := Lib.hid (DL.out.below BB)
  replace HC := Lib.hid (heap_below BB HC.out)
  replace DC := Lib.hid (DC.out.below BB)
  replace BW := Lib.hid (BW.out.trans (BB.mono BW.out.size))
  have HX := Lib.hid hX; have DX := Lib.hid (tdX.below BX)
  clear hb10 hX BX BB tdX
  obtain ⟨p0X, p1X⟩ := box2 HX.out
  obtain ⟨p0H, p1H⟩ := box2 HH.out
  obtain ⟨p0L, p1L⟩ := box2 HL.out
  go_wp2_with (with_reducible refine wpList_store_last rfl 28 (.tmp 14) (.tmp 50) rfl dg0 #[.slice aX (litT v).canon.nodes.length cX, .int .i64 (litT v).canon.root] rfl rfl sizedg rfl (by simp [Value.oneCell']) ?_)
  clear p0X p1X p0H p1H p0L p1L eX hBX
  refine (choose_t DX.out DH.out DL.out (few_of_tree DA.out.ok (back_ev EH.out EL.out) DA.out.len)).mono ?_
  rintro e w12 ⟨hR, hb12⟩
  obtain ⟨aM, cM, rfl, tdM, -⟩ := hR.known DA.out.ok (back_ev EH.out EL.out)
  obtain ⟨w13, bM, eM, hBM, -, hM, BM⟩ := laid w12 #[.slice aM tA.canon.nodes.length cM, .int .i64 tA.canon.root] 28
  have BB := hb12.trans (BM.mono hb12.size)
  replace HA := Lib.hid (heap_below BB HA.out)
  replace DA := Lib.hid (DA.out.below BB)
  replace HH := Lib.hid (heap_below BB HH.out)
  replace DH := Lib.hid (DH.out.below BB)
  replace HL := Lib.hid (heap_below BB HL.out)
  replace DL := Lib.hid (DL.out.below BB)
  replace HC := Lib.hid (heap_below BB HC.out)
  replace DC := Lib.hid (DC.out.below BB)
  replace HX := Lib.hid (heap_below BB HX.out)
  replace DX := Lib.hid (DX.out.below BB)
  replace BW := Lib.hid (BW.out.trans (BB.mono BW.out.size))
  have HM := Lib.hid hM; have DM := Lib.hid (tdM.below BM)
  clear hb12 hM BM BB tdM
  clear hR
  obtain ⟨p0H, p1H⟩ := box2 HH.out
  obtain ⟨p0L, p1L⟩ := box2 HL.out
  go_wp2_with (with_reducible refine wpList_store_last rfl 28 (.tmp 16) (.tmp 57) rfl dg0 #[.slice aM tA.canon.nodes.length cM, .int .i64 tA.canon.root] rfl rfl sizedg rfl (by simp [Value.oneCell']) ?_)
  clear p0H p1H p0L p1L eM hBM
  refine (or_t DH.out DL.out (few_of_tree DC.out.ok (fun x => by rw [EC.out x, EH.out x, EL.out x, Bool.or_comm]) DC.out.len)).mono ?_
  rintro e w14 ⟨hR, hb14⟩
  obtain ⟨aU, cU, rfl, tdU, -⟩ := hR.known DC.out.ok (fun x => by rw [EC.out x, EH.out x, EL.out x, Bool.or_comm])
  obtain ⟨w15, bU, eU, hBU, -, hU, BU⟩ := laid w14 #[.slice aU tC.canon.nodes.length cU, .int .i64 tC.canon.root] 28
  have BB := hb14.trans (BU.mono hb14.size)
  replace HA := Lib.hid (heap_below BB HA.out)
  replace DA := Lib.hid (DA.out.below BB)
  replace HH := Lib.hid (heap_below BB HH.out)
  replace DH := Lib.hid (DH.out.below BB)
  replace HL := Lib.hid (heap_below BB HL.out)
  replace DL := Lib.hid (DL.out.below BB)
  replace HC := Lib.hid (heap_below BB HC.out)
  replace DC := Lib.hid (DC.out.below BB)
  replace HX := Lib.hid (heap_below BB HX.out)
  replace DX := Lib.hid (DX.out.below BB)
  replace HM := Lib.hid (heap_below BB HM.out)
  replace DM := Lib.hid (DM.out.below BB)
  replace BW := Lib.hid (BW.out.trans (BB.mono BW.out.size))
  have HU := Lib.hid hU; have DU := Lib.hid (tdU.below BU)
  clear hb14 hU BU BB tdU
  clear hR
  obtain ⟨p0H, p1H⟩ := box2 HH.out
  go_wp2_with (with_reducible refine wpList_store_last rfl 28 (.tmp 18) (.tmp 63) rfl dg0 #[.slice aU tC.canon.nodes.length cU, .int .i64 tC.canon.root] rfl rfl sizedg rfl (by simp [Value.oneCell']) ?_)
  clear p0H p1H eU hBU
  refine (restrict_t DH.out v hv6 false (few_of_tree DH.out.ok (fun x => by rw [EH.out x, EH.out, upd_upd]) DH.out.len)).mono ?_
  rintro e w16 ⟨hR, hb16⟩
  obtain ⟨aS, cS, rfl, tdS, -⟩ := hR.known DH.out.ok (fun x => by rw [EH.out x, EH.out, upd_upd])
  obtain ⟨w17, bS, eS, hBS, -, hS, BS⟩ := laid w16 #[.slice aS tH.canon.nodes.length cS, .int .i64 tH.canon.root] 28
  have BB := hb16.trans (BS.mono hb16.size)
  replace HA := Lib.hid (heap_below BB HA.out)
  replace DA := Lib.hid (DA.out.below BB)
  replace HH := Lib.hid (heap_below BB HH.out)
  replace DH := Lib.hid (DH.out.below BB)
  replace HL := Lib.hid (heap_below BB HL.out)
  replace DL := Lib.hid (DL.out.below BB)
  replace HC := Lib.hid (heap_below BB HC.out)
  replace DC := Lib.hid (DC.out.below BB)
  replace HX := Lib.hid (heap_below BB HX.out)
  replace DX := Lib.hid (DX.out.below BB)
  replace HM := Lib.hid (heap_below BB HM.out)
  replace DM := Lib.hid (DM.out.below BB)
  replace HU := Lib.hid (heap_below BB HU.out)
  replace DU := Lib.hid (DU.out.below BB)
  replace BW := Lib.hid (BW.out.trans (BB.mono BW.out.size))
  have HS := Lib.hid hS; have DS := Lib.hid (tdS.below BS)
  clear hb16 hS BS BB tdS
  clear hR
  obtain ⟨p0M, p1M⟩ := box2 HM.out
  obtain ⟨p0A, p1A⟩ := box2 HA.out
  go_wp2_with (with_reducible refine wpList_store_last rfl 28 (.tmp 20) (.tmp 69) rfl dg0 #[.slice aS tH.canon.nodes.length cS, .int .i64 tH.canon.root] rfl rfl sizedg rfl (by simp [Value.oneCell']) ?_)
  clear p0M p1M p0A p1A eS hBS
  refine (same_k DM.out DA.out).mono ?_
  rintro e w18 ⟨rfl, hb18⟩
  replace HA := Lib.hid (heap_below hb18 HA.out)
  replace DA := Lib.hid (DA.out.below hb18)
  replace HH := Lib.hid (heap_below hb18 HH.out)
  replace DH := Lib.hid (DH.out.below hb18)
  replace HL := Lib.hid (heap_below hb18 HL.out)
  replace DL := Lib.hid (DL.out.below hb18)
  replace HC := Lib.hid (heap_below hb18 HC.out)
  replace DC := Lib.hid (DC.out.below hb18)
  replace HX := Lib.hid (heap_below hb18 HX.out)
  replace DX := Lib.hid (DX.out.below hb18)
  replace HM := Lib.hid (heap_below hb18 HM.out)
  replace DM := Lib.hid (DM.out.below hb18)
  replace HU := Lib.hid (heap_below hb18 HU.out)
  replace DU := Lib.hid (DU.out.below hb18)
  replace HS := Lib.hid (heap_below hb18 HS.out)
  replace DS := Lib.hid (DS.out.below hb18)
  replace BW := Lib.hid (BW.out.trans (hb18.mono BW.out.size))
  clear hb18
  obtain ⟨p0C, p1C⟩ := box2 HC.out
  obtain ⟨p0U, p1U⟩ := box2 HU.out
  go_wp2_with (fail)
  clear p0C p1C p0U p1U
  refine (same_k DC.out DU.out).mono ?_
  rintro e w19 ⟨rfl, hb19⟩
  replace HA := Lib.hid (heap_below hb19 HA.out)
  replace DA := Lib.hid (DA.out.below hb19)
  replace HH := Lib.hid (heap_below hb19 HH.out)
  replace DH := Lib.hid (DH.out.below hb19)
  replace HL := Lib.hid (heap_below hb19 HL.out)
  replace DL := Lib.hid (DL.out.below hb19)
  replace HC := Lib.hid (heap_below hb19 HC.out)
  replace DC := Lib.hid (DC.out.below hb19)
  replace HX := Lib.hid (heap_below hb19 HX.out)
  replace DX := Lib.hid (DX.out.below hb19)
  replace HM := Lib.hid (heap_below hb19 HM.out)
  replace DM := Lib.hid (DM.out.below hb19)
  replace HU := Lib.hid (heap_below hb19 HU.out)
  replace DU := Lib.hid (DU.out.below hb19)
  replace HS := Lib.hid (heap_below hb19 HS.out)
  replace DS := Lib.hid (DS.out.below hb19)
  replace BW := Lib.hid (BW.out.trans (hb19.mono BW.out.size))
  clear hb19
  obtain ⟨p0S, p1S⟩ := box2 HS.out
  obtain ⟨p0H, p1H⟩ := box2 HH.out
  go_wp2_with (fail)
  clear p0S p1S p0H p1H
  refine (same_k DS.out DH.out).mono ?_
  rintro e w20 ⟨rfl, hb20⟩
  replace HA := Lib.hid (heap_below hb20 HA.out)
  replace DA := Lib.hid (DA.out.below hb20)
  replace HH := Lib.hid (heap_below hb20 HH.out)
  replace DH := Lib.hid (DH.out.below hb20)
  replace HL := Lib.hid (heap_below hb20 HL.out)
  replace DL := Lib.hid (DL.out.below hb20)
  replace HC := Lib.hid (heap_below hb20 HC.out)
  replace DC := Lib.hid (DC.out.below hb20)
  replace HX := Lib.hid (heap_below hb20 HX.out)
  replace DX := Lib.hid (DX.out.below hb20)
  replace HM := Lib.hid (heap_below hb20 HM.out)
  replace DM := Lib.hid (DM.out.below hb20)
  replace HU := Lib.hid (heap_below hb20 HU.out)
  replace DU := Lib.hid (DU.out.below hb20)
  replace HS := Lib.hid (heap_below hb20 HS.out)
  replace DS := Lib.hid (DS.out.below hb20)
  replace BW := Lib.hid (BW.out.trans (hb20.mono BW.out.size))
  clear hb20
  go_wp2_with (fail)
  go_ret
  exact ⟨by rfl, BW.out⟩

end Go.Proofs.Ytohmibmakelclaa

namespace Go.Proofs.Ytohmibmakelclaa
set_option linter.unusedVariables false
set_option linter.unusedSimpArgs false
open Go.RowKit

/-- What the words o and z ask of x. -/
def Lits (o z : Nat) (x : Nat → Bool) : Prop := ∀ v, (o.testBit v = true → x v = true) ∧ (z.testBit v = true → x v = false)

theorem Lits.zero (x : Nat → Bool) : Lits 0 0 x := fun v => by simp
theorem Lits.one {o z : Nat} (v : Nat) (x : Nat → Bool) : Lits (o ||| 2 ^ v) z x ↔ x v = true ∧ Lits o z x := by
  constructor
  · intro h
    refine ⟨(h v).1 (by simp [Nat.testBit_or, Nat.testBit_two_pow]), fun u => ⟨fun hu => (h u).1 (by simp [Nat.testBit_or, hu]), (h u).2⟩⟩
  · rintro ⟨h1, h2⟩ u
    refine ⟨fun hu => ?_, (h2 u).2⟩
    rw [Nat.testBit_or, Nat.testBit_two_pow, Bool.or_eq_true, decide_eq_true_iff] at hu
    rcases hu with hu | rfl
    · exact (h2 u).1 hu
    · exact h1
theorem Lits.none {o z : Nat} (v : Nat) (x : Nat → Bool) : Lits o (z ||| 2 ^ v) x ↔ x v = false ∧ Lits o z x := by
  constructor
  · intro h
    refine ⟨(h v).2 (by simp [Nat.testBit_or, Nat.testBit_two_pow]), fun u => ⟨(h u).1, fun hu => (h u).2 (by simp [Nat.testBit_or, hu])⟩⟩
  · rintro ⟨h1, h2⟩ u
    refine ⟨(h2 u).1, fun hu => ?_⟩
    rw [Nat.testBit_or, Nat.testBit_two_pow, Bool.or_eq_true, decide_eq_true_iff] at hu
    rcases hu with hu | rfl
    · exact (h2 u).2 hu
    · exact h1

/-- The tree of a conjunction, from condition 64 - m on. -/
def chain (o z : Nat) : Nat → T
  | 0 => .leaf true
  | m + 1 => if o.testBit (63 - m) then .node (63 - m) (.leaf false) (chain o z m) else if z.testBit (63 - m) then .node (63 - m) (chain o z m) (.leaf false) else chain o z m
theorem chain_ne (o z : Nat) : ∀ m, chain o z m ≠ .leaf false
  | 0 => by simp [chain]
  | m + 1 => by
    simp only [chain]
    split
    · simp
    · split
      · simp
      · exact chain_ne o z m
theorem chain_lv (o z : Nat) : ∀ m, m ≤ 64 → 64 - m ≤ (chain o z m).lv
  | 0, _ => by simp [chain, T.lv]
  | m + 1, h => by
    simp only [chain]
    split
    · simp only [T.lv]; omega
    · split
      · simp only [T.lv]; omega
      · have := chain_lv o z m (by omega); omega
theorem chain_ok (o z : Nat) : ∀ m, m ≤ 64 → (chain o z m).Ok
  | 0, _ => trivial
  | m + 1, h => by
    have h1 := chain_ok o z m (by omega)
    have h2 := chain_lv o z m (by omega)
    simp only [chain]
    split
    · exact ⟨by omega, by simp only [T.lv]; omega, by omega, (chain_ne o z m).symm, trivial, h1⟩
    · split
      · exact ⟨by omega, by omega, by simp only [T.lv]; omega, chain_ne o z m, h1, trivial⟩
      · exact h1
theorem chain_nn (o z : Nat) : ∀ m, (chain o z m).nn ≤ m
  | 0 => by simp [chain, T.nn]
  | m + 1 => by
    have h1 := chain_nn o z m
    simp only [chain]
    split
    · simp only [T.nn]; omega
    · split
      · simp only [T.nn]; omega
      · omega
theorem chain_ev (o z : Nat) (x : Nat → Bool) (hoz : ∀ v, o.testBit v = true → z.testBit v = true → False) : ∀ m, m ≤ 64 → ((chain o z m).ev x = true ↔ ∀ v, 64 - m ≤ v → v < 64 → (o.testBit v = true → x v = true) ∧ (z.testBit v = true → x v = false))
  | 0, _ => by simp only [chain, T.ev, true_iff]; intro v h1 h2; omega
  | m + 1, h => by
    have ih := chain_ev o z x hoz m (by omega)
    have hd : (∀ v, 64 - (m + 1) ≤ v → v < 64 → (o.testBit v = true → x v = true) ∧ (z.testBit v = true → x v = false)) ↔ ((o.testBit (63 - m) = true → x (63 - m) = true) ∧ (z.testBit (63 - m) = true → x (63 - m) = false)) ∧ ∀ v, 64 - m ≤ v → v < 64 → (o.testBit v = true → x v = true) ∧ (z.testBit v = true → x v = false) := by
      constructor
      · intro hh; exact ⟨hh _ (by omega) (by omega), fun v h1 h2 => hh v (by omega) h2⟩
      · rintro ⟨h1, h2⟩ v hv hv'
        by_cases e : v = 63 - m
        · rw [e]; exact h1
        · exact h2 v (by omega) hv'
    rw [hd, ← ih]
    simp only [chain]
    by_cases ho : o.testBit (63 - m) = true
    · rw [if_pos ho]
      have hz : z.testBit (63 - m) = false := by cases e : z.testBit (63 - m) with
        | false => rfl
        | true => exact (hoz _ ho e).elim
      simp only [T.ev, ho, hz]
      cases hx : x (63 - m) <;> simp
    · rw [if_neg ho]
      have ho' : o.testBit (63 - m) = false := by simpa using ho
      by_cases hz : z.testBit (63 - m) = true
      · rw [if_pos hz]
        simp only [T.ev, ho', hz]
        cases hx : x (63 - m) <;> simp
      · rw [if_neg hz]
        have hz' : z.testBit (63 - m) = false := by simpa using hz
        simp [ho', hz']

theorem bit_lt {o v : Nat} (ho : o < 2 ^ 64) (h : o.testBit v = true) : v < 64 := by
  rcases Nat.lt_or_ge v 64 with h1 | h1
  · exact h1
  · rw [Nat.testBit_lt_two_pow (Nat.lt_of_lt_of_le ho (Nat.pow_le_pow_right (by omega) h1))] at h; cases h
theorem clash_iff {o z : Nat} : o &&& z = 0 ↔ ∀ v, o.testBit v = true → z.testBit v = true → False := by
  constructor
  · intro h v h1 h2
    have : (o &&& z).testBit v = true := by rw [Nat.testBit_and, h1, h2]; rfl
    rw [h] at this; simp at this
  · intro h
    refine Nat.eq_of_testBit_eq (fun v => ?_)
    rw [Nat.testBit_and, Nat.zero_testBit]
    cases h1 : o.testBit v with
    | false => rfl
    | true => cases h2 : z.testBit v with
      | false => rfl
      | true => exact (h v h1 h2).elim

/-- The set that a conjunction is has at most 64 branches. -/
theorem few_lits {o z : Nat} (ho : o < 2 ^ 64) (hz : z < 2 ^ 64) {f : (Nat → Bool) → Bool} (hf : ∀ x, f x = true ↔ Lits o z x) : Few f := by
  by_cases hc : o &&& z = 0
  · have hoz := clash_iff.1 hc
    refine few_of_tree (t := chain o z 64) (chain_ok o z 64 (Nat.le_refl _)) (fun x => ?_) ?_
    · rw [Bool.eq_iff_iff, chain_ev o z x hoz 64 (Nat.le_refl _), hf]
      constructor
      · intro h v
        exact ⟨fun h1 => (h v (by omega) (bit_lt ho h1)).1 h1, fun h1 => (h v (by omega) (bit_lt hz h1)).2 h1⟩
      · intro h v _ _; exact h v
    · have h1 := T.visit_len (chain o z 64) []
      have h2 := chain_nn o z 64
      show (table _).length ≤ 4096
      rw [table_length]
      simp at h1
      omega
  · refine few_of_tree (t := .leaf false) trivial (fun x => ?_) (by rw [canon_leaf]; simp)
    cases hx : f x with
    | false => rfl
    | true =>
      exfalso; refine hc (clash_iff.2 (fun v h1 h2 => ?_))
      have h := ((hf x).1 hx) v
      rw [h.1 h1] at h; have := h.2 h2; cases this

theorem lits_leaf {o z : Nat} {t : T} (ok : t.Ok) (ht : ∀ x, t.ev x = true ↔ Lits o z x) (hc : o &&& z ≠ 0) : t = .leaf false :=
  T.same ok trivial (fun x => by
    cases hx : t.ev x with
    | false => rfl
    | true =>
      exfalso; refine hc (clash_iff.2 (fun v h1 h2 => ?_))
      have h := ((ht x).1 hx) v
      rw [h.1 h1] at h; have := h.2 h2; cases this)
theorem lits_ones {o z : Nat} (hc : o &&& z = 0) : Lits o z (bits o) := fun v => ⟨fun h => h, fun h => by
  cases e : bits o v with
  | false => rfl
  | true => exact ((clash_iff.1 hc) v e h).elim⟩
theorem lits_ne {o z : Nat} {t : T} (ht : ∀ x, t.ev x = true ↔ Lits o z x) (hc : o &&& z = 0) : t ≠ .leaf false := by
  rintro rfl
  have := (ht (bits o)).2 (lits_ones hc)
  cases this
theorem lits_least {o z : Nat} {t : T} (ok : t.Ok) (ht : ∀ x, t.ev x = true ↔ Lits o z x) (hc : o &&& z = 0) : t.lst = o := by
  refine Nat.le_antisymm (T.lst_le t ok o ((ht _).2 (lits_ones hc))) ?_
  have h := (ht _).1 (T.lst_in t ok (lits_ne ht hc))
  have h1 : o &&& t.lst = o := by
    refine Nat.eq_of_testBit_eq (fun v => ?_)
    rw [Nat.testBit_and]
    cases e : o.testBit v with
    | false => rfl
    | true => rw [show t.lst.testBit v = true from (h v).1 e]; rfl
  rw [← h1]; exact Nat.and_le_right
theorem lits_moved {o z c : Nat} {t : T} (ho : o < 2 ^ 64) (ht : ∀ x, t.ev x = true ↔ Lits o z x) (hc : o &&& z = 0) (hz : z < 2 ^ 64) : t.ev (bits ((c &&& (18446744073709551615 - z)) ||| o)) = true := by
  refine (ht _).2 (fun v => ⟨fun h => by show Nat.testBit _ v = true; rw [Nat.testBit_or, h]; simp, fun h => ?_⟩)
  show Nat.testBit _ v = false
  have e : 18446744073709551615 - z = 2 ^ 64 - (z + 1) := by omega
  have h1 : o.testBit v = false := by
    cases e1 : o.testBit v with
    | false => rfl
    | true => exact ((clash_iff.1 hc) v e1 h).elim
  rw [Nat.testBit_or, Nat.testBit_and, e, Nat.testBit_two_pow_sub_succ hz, h, h1]
  simp

end Go.Proofs.Ytohmibmakelclaa

namespace Go.Proofs.Ytohmibmakelclaa
set_option linter.unusedVariables false
set_option linter.unusedSimpArgs false
open Go.RowKit

/-- A set over n conditions looks at no other. -/
theorem T.ev_agree {n : Nat} : ∀ {t : T}, t.bel n → ∀ (x y : Nat → Bool), (∀ i, i < n → x i = y i) → t.ev x = t.ev y
  | .leaf _, _, _, _, _ => rfl
  | .node v l h, hb, x, y, hxy => by
    simp only [T.ev]
    rw [hxy v hb.1, T.ev_agree hb.2.1 x y hxy, T.ev_agree hb.2.2 x y hxy]

/-- Each choice of n conditions is a number's. -/
theorem cfg (n : Nat) (x : Nat → Bool) : ∃ j, j < 2 ^ n ∧ ∀ i, i < n → bits j i = x i := by
  induction n with
  | zero => exact ⟨0, by simp, fun i h => by omega⟩
  | succ n ih =>
    obtain ⟨j, hj, hx⟩ := ih
    cases hn : x n with
    | false =>
      refine ⟨j, Nat.lt_of_lt_of_le hj (Nat.pow_le_pow_right (by omega) (by omega)), fun i hi => ?_⟩
      rcases Nat.lt_or_eq_of_le (Nat.le_of_lt_succ hi) with h | rfl
      · exact hx i h
      · rw [hn]; exact Nat.testBit_lt_two_pow hj
    | true =>
      refine ⟨j ||| 2 ^ n, Nat.or_lt_two_pow (Nat.lt_of_lt_of_le hj (Nat.pow_le_pow_right (by omega) (by omega))) (Nat.pow_lt_pow_right (by omega) (by omega)), fun i hi => ?_⟩
      rw [bits_or]
      unfold upd
      split
      · rename_i h; subst h; exact hn.symm
      · exact hx i (by omega)

/-- The union of those of the first k configurations that lie in a. -/
def Uni (t a : T) (n k : Nat) : Prop := Dep n t.ev ∧ ∀ x, t.ev x = true ↔ ∃ j, j < k ∧ a.ev (bits j) = true ∧ ∀ i, i < n → x i = bits j i
/-- The configurations that agree with k in the first m conditions. -/
def One (t : T) (k m n : Nat) : Prop := Dep n t.ev ∧ ∀ x, t.ev x = true ↔ ∀ i, i < m → x i = bits k i

theorem Uni.zero (a : T) (n : Nat) : Uni (.leaf false) a n 0 := ⟨fun _ _ _ _ => rfl, fun x => by simp [T.ev]⟩
theorem Uni.out {t a : T} {n k : Nat} (h : Uni t a n k) (hk : a.ev (bits k) = false) : Uni t a n (k + 1) := ⟨h.1, fun x => by
  rw [h.2]
  constructor
  · rintro ⟨j, hj, h1⟩; exact ⟨j, by omega, h1⟩
  · rintro ⟨j, hj, h1, h2⟩
    refine ⟨j, ?_, h1, h2⟩
    have : j ≠ k := fun e => by rw [e, hk] at h1; cases h1
    omega⟩
theorem Uni.put {t a u o : T} {n k : Nat} (h : Uni t a n k) (hk : a.ev (bits k) = true) (ho : One o k n n) (hu : ∀ x, u.ev x = (o.ev x || t.ev x)) : Uni u a n (k + 1) := by
  constructor
  · rw [show u.ev = _ from funext hu]; exact ho.1.or h.1
  · intro x
    rw [hu, Bool.or_eq_true, ho.2, h.2]
    constructor
    · rintro (h1 | ⟨j, hj, h1⟩)
      · exact ⟨k, by omega, hk, h1⟩
      · exact ⟨j, by omega, h1⟩
    · rintro ⟨j, hj, h1, h2⟩
      rcases Nat.lt_or_eq_of_le (Nat.le_of_lt_succ hj) with hlt | rfl
      · exact .inr ⟨j, hlt, h1, h2⟩
      · exact .inl h2
theorem Uni.done {t a : T} {n : Nat} (h : Uni t a n (2 ^ n)) (ok : t.Ok) (oka : a.Ok) (hb : a.bel n) : t = a :=
  T.same ok oka (fun x => by
    have h1 := h.2 x
    obtain ⟨j, hj, hx⟩ := cfg n x
    rw [Bool.eq_iff_iff, h1]
    constructor
    · rintro ⟨i, -, hi, hxi⟩; rw [T.ev_agree hb x (bits i) hxi]; exact hi
    · intro ha; exact ⟨j, hj, by rw [T.ev_agree hb (bits j) x hx]; exact ha, fun i hi => (hx i hi).symm⟩)
theorem One.zero (k n : Nat) : One (.leaf true) k 0 n := ⟨fun _ _ _ _ => rfl, fun x => by simp [T.ev]⟩
theorem One.next {o u : T} {k m n : Nat} (h : One o k m n) (hm : m < n) (hu : ∀ x, u.ev x = (o.ev x && (litB m (bits k m)).ev x)) : One u k (m + 1) n := by
  constructor
  · rw [show u.ev = _ from funext hu]
    refine h.1.and ?_
    rw [show (litB m (bits k m)).ev = fun x => (x m == bits k m) from funext (litB_ev m _)]
    intro c i b hi
    simp only [upd]; rw [if_neg (by omega)]
  · intro x
    rw [hu, Bool.and_eq_true, h.2, litB_ev, beq_iff_eq]
    constructor
    · rintro ⟨h1, h2⟩ i hi
      rcases Nat.lt_or_eq_of_le (Nat.le_of_lt_succ hi) with hlt | rfl
      · exact h1 i hlt
      · exact h2
    · intro h1; exact ⟨fun i hi => h1 i (by omega), h1 m (by omega)⟩
theorem One.few {o : T} {k m n : Nat} (h : One o k m n) (hm : m < n) (hn : n ≤ 6) : Few (fun x => o.ev x && (litB m (bits k m)).ev x) := by
  refine few_of_dep ((h.1.and ?_).mono hn)
  rw [show (litB m (bits k m)).ev = fun x => (x m == bits k m) from funext (litB_ev m _)]
  intro c i b hi
  simp only [upd]; rw [if_neg (by omega)]
theorem Uni.few {o t a : T} {k n : Nat} (h : Uni t a n k) (ho : One o k n n) (hn : n ≤ 6) : Few (fun x => o.ev x || t.ev x) := few_of_dep ((ho.1.or h.1).mono hn)
/-- Two sets that hold the same configurations are the same. -/
theorem same_all {s t : T} {n : Nat} (oks : s.Ok) (okt : t.Ok) (hs : s.bel n) (ht : t.bel n) : s = t ↔ ∀ j, j < 2 ^ n → s.ev (bits j) = t.ev (bits j) := by
  constructor
  · rintro rfl _ _; rfl
  · intro h
    refine T.same oks okt (fun x => ?_)
    obtain ⟨j, hj, hx⟩ := cfg n x
    rw [← T.ev_agree hs (bits j) x hx, ← T.ev_agree ht (bits j) x hx]
    exact h j hj

/-- One cell of a box is stored into. -/
theorem put1 {w0 w : World} {b : Nat} {a0 a1 c1 : Value} {t : TypeId} (h : w.heap[b]? = some (.cells #[a0, a1] t (0, 0))) (hs : Below w0.heap.size w0 w) (hb : w0.heap.size ≤ b) :
    ∃ w', w.setCell ⟨b, 1, none⟩ c1 = w' ∧ w'.heap[b]? = some (.cells #[a0, c1] t (0, 0)) ∧ Below w0.heap.size w0 w' ∧ Step (fun k => k = b) w (fun k => k = b) w' := by
  refine ⟨_, rfl, ?_, hs.setCell hb _, (Step.refl (fun k => k = b) w).setCell (.inl rfl) _⟩
  rw [heap_setCell_same _ b 1 _ _ c1 h]; rfl

theorem heap_lt {w : World} {b : Nat} {o : Obj} (h : w.heap[b]? = some o) : b < w.heap.size := by rw [Array.getElem?_eq_some_iff] at h; exact h.1
theorem DgAt.newer {w w' : World} {M M' : Nat → Prop} {v : Value} {D : Dg} (h : DgAt w M v D) (hb : Below w.heap.size w w') (hM : ∀ k, M' k → M k ∨ w.heap.size ≤ k) : DgAt w' M' v D :=
  h.step ((Step.of_below hb M).to (fun _ h => h) hM)

/-- A diagram in a box: the box, and the diagram, apart from M. -/
structure In (w : World) (M : Nat → Prop) (b : Nat) (a : Option Addr) (c : Nat) (t : T) : Prop where
  box : w.heap[b]? = some (.cells #[.slice a t.canon.nodes.length c, .int .i64 t.canon.root] 28 (0, 0))
  at' : DgAt w M (dval a c t) t.canon
  ok : t.Ok
  len : t.canon.nodes.length ≤ 4096
theorem In.td {w : World} {M : Nat → Prop} {b : Nat} {a : Option Addr} {c : Nat} {t : T} (h : In w M b a c t) : TD w (dval a c t) t := ⟨h.at'.wide (fun k hk => hk.elim), h.ok, h.len⟩
theorem In.fresh {w w' : World} {M M' : Nat → Prop} {b : Nat} {a : Option Addr} {c : Nat} {t : T} (h : In w M b a c t) (hb : Below w.heap.size w w') (hM : ∀ k, M' k → M k ∨ w.heap.size ≤ k) : In w' M' b a c t :=
  ⟨heap_below hb h.box, h.at'.newer hb hM, h.ok, h.len⟩
theorem In.below {w w' : World} {M : Nat → Prop} {b : Nat} {a : Option Addr} {c : Nat} {t : T} (h : In w M b a c t) (hb : Below w.heap.size w w') : In w' M b a c t := h.fresh hb (fun k hk => .inl hk)
theorem In.put {w w' : World} {M : Nat → Prop} {b q : Nat} {a : Option Addr} {c : Nat} {t : T} (h : In w M b a c t) (hs : Step (fun k => k = q) w (fun k => k = q) w') (hq : M q) (hb : b ≠ q) : In w' M b a c t :=
  ⟨(hs.block b (heap_lt h.box) hb).trans h.box, h.at'.step (hs.wide (fun k hk => by rw [hk]; exact hq)), h.ok, h.len⟩
theorem In.wide {w : World} {M M' : Nat → Prop} {b : Nat} {a : Option Addr} {c : Nat} {t : T} (h : In w M b a c t) (hM : ∀ k, M' k → M k) : In w M' b a c t := ⟨h.box, h.at'.wide hM, h.ok, h.len⟩

end Go.Proofs.Ytohmibmakelclaa

namespace Go.Proofs.Ytohmibmakelclaa
set_option linter.unusedVariables false
set_option linter.unusedSimpArgs false
open Go.RowKit

theorem bit_any (k v : Nat) : ((((k : Int) / 2 ^ v).tmod 2) == 1) = bits k v := by
  have e : ((k : Int) / 2 ^ v) = ((k / 2 ^ v : Nat) : Int) := by push_cast; rfl
  rw [e, Int.tmod_eq_emod_of_nonneg (Int.natCast_nonneg _)]
  unfold bits
  rw [Nat.testBit_eq_decide_div_mod_eq, Bool.eq_iff_iff]
  simp only [beq_iff_eq, decide_eq_true_eq]
  obtain ⟨q, hq⟩ : ∃ q, k / 2 ^ v = q := ⟨_, rfl⟩
  rw [hq]
  omega
theorem int_ne (n : Nat) : ((n : Int) != 0) = (n != 0) := by
  rw [Bool.eq_iff_iff]; simp
theorem clash_mono1 {o z : Nat} (h : o &&& z ≠ 0) (p : Nat) : ((o ||| p) &&& z != 0) = true := by
  rw [bne_iff_ne]
  intro h0
  refine h (clash_iff.2 (fun v h1 h2 => ?_))
  exact clash_iff.1 h0 v (by rw [Nat.testBit_or, h1]; rfl) h2
theorem clash_mono2 {o z : Nat} (h : o &&& z ≠ 0) (p : Nat) : (o &&& (z ||| p) != 0) = true := by
  rw [bne_iff_ne]
  intro h0
  refine h (clash_iff.2 (fun v h1 h2 => ?_))
  exact clash_iff.1 h0 v h1 (by rw [Nat.testBit_or, h2]; rfl)

set_option maxRecDepth 100000 in
set_option maxHeartbeats 8000000 in
theorem literalsLaw (w : World) (v : Value) (xs : List Int) (hs : Bytes w NoB v xs) (hx : ∀ y ∈ xs, 0 ≤ y ∧ y ≤ 255) (q : Int) (hq0 : 0 ≤ q) (hq1 : q < 18446744073709551616) :
    Calls Try.prog 9 #[v, .int .u64 q] w fun e w' => e = .returned (.bool true) ∧ Below w.heap.size w w' := by
  obtain ⟨a, c, rfl⟩ : ∃ a c, v = .slice a xs.length c := by obtain ⟨a, c, e, -⟩ := hs; exact ⟨a, c, e⟩
  obtain ⟨q, rfl⟩ := Int.eq_ofNat_of_zero_le hq0
  have hq2 : q < 18446744073709551616 := by omega
  have BW : Hid (Below w.heap.size w w) := Below.refl _ _
  have HS := Lib.hid hs; have HX := Lib.hid hx
  clear hs hx hq0
  go_enter Try.func9, Try.ntmps9
  go_wp2_with (fail)
  refine (sanity_any w).mono ?_
  rintro e w1 ⟨rfl, hb1⟩
  replace BW := Lib.hid (BW.out.trans (hb1.mono BW.out.size))
  clear hb1
  go_wp2_with (fail)
  refine (constant_any w1 true).mono ?_
  rintro e w2 ⟨rv, rfl, hM, hb2⟩
  obtain ⟨aD, cD, rfl⟩ := (hM NoB).shape
  obtain ⟨w9, bD, eD, hBD, zD, hD, BD⟩ := laid w2 #[.slice aD (T.leaf true).canon.nodes.length cD, .int .i64 (T.leaf true).canon.root] 28
  have BB := hb2.trans (BD.mono hb2.size)
  have NBD : Hid (w.heap.size ≤ bD) := by show _ ≤ _; have := BW.out.size; have h := hb2.size; omega
  replace BW := Lib.hid (BW.out.trans (BB.mono BW.out.size))
  have ID : Hid (In w9 (fun q => q = bD) bD aD cD (.leaf true)) := ⟨hD, (hM _).below BD, trivial, by rw [canon_leaf]; simp⟩
  obtain ⟨pd0, pd1⟩ := box2 hD
  clear hM hD BD BB hb2
  go_wp2_with (with_reducible refine wpList_store_last rfl 28 (.tmp 6) (.tmp 19) rfl dg0 #[.slice aD (T.leaf true).canon.nodes.length cD, .int .i64 (T.leaf true).canon.root] rfl rfl sizedg rfl (by simp [Value.oneCell']) ?_)
  clear pd0 pd1 eD hBD zD
  go_loopw [7, 8, 9, 10, 11] (fun ag cl on ze i wr => ∃ (j o z : Nat) (aD : Option Addr) (cD : Nat) (tD : T), j ≤ xs.length ∧ j ≤ 12 ∧ ag = .bool (tD.ev (bits q)) ∧ cl = .bool (o &&& z != 0) ∧ on = .int .u64 o ∧ ze = .int .u64 z ∧ i = .int .i64 j ∧ Hid (o < 2 ^ 64) ∧ Hid (z < 2 ^ 64) ∧ Hid (∀ x, tD.ev x = true ↔ Lits o z x) ∧ Hid (In wr (fun q => q = bD) bD aD cD tD) ∧ Hid (Below w.heap.size w wr)) (fun _ _ _ _ i _ => 12 - (intOf i).toNat)
  case atStart => exact ⟨0, 0, 0, aD, cD, .leaf true, Nat.zero_le _, by omega, rfl, rfl, rfl, rfl, rfl, by show _ < _; omega, by show _ < _; omega, fun x => ⟨fun _ => Lits.zero x, fun _ => rfl⟩, ID, BW⟩
  case round =>
    clear ID BW
    obtain ⟨j, o, z, aD, cD, tD, hj, hj12, rfl, rfl, rfl, rfl, rfl, HO, HZ, HL, ID, BW⟩ := hrel
    have hj0 : (0 : Int) ≤ (j : Int) := by omega
    have hj1 : (j : Int) ≤ 12 := by omega
    by_cases hl : j < xs.length ∧ j < 12
    · have hlt : (j : Int) < (xs.length : Int) := by omega
      have hlt12 : (j : Int) < 12 := by omega
      obtain ⟨b, off, rfl, -, -, cc⟩ := Reads.get (HS.out.step (Step.of_below BW.out NoB)) (j := j) (u := .int .u8 xs[j]) (by simp [hl.1])
      have hy := HX.out xs[j] (List.getElem_mem _)
      obtain ⟨y, hy'⟩ : ∃ y, xs[j] = y := ⟨_, rfl⟩
      rw [hy'] at cc hy
      obtain ⟨v, hv⟩ : ∃ v : Nat, y.tmod 64 = v := ⟨(y % 64).toNat, by rw [Int.tmod_eq_emod_of_nonneg hy.1]; omega⟩
      have hv6 : v ≤ 63 := by rw [Int.tmod_eq_emod_of_nonneg hy.1] at hv; omega
      have hvi : (0 : Int) ≤ v ∧ (v : Int) ≤ 63 := by omega
      obtain ⟨ag, hag⟩ : ∃ ag, tD.ev (bits q) = ag := ⟨_, rfl⟩
      obtain ⟨cl, hcl⟩ : ∃ cl, (o &&& z != 0) = cl := ⟨_, rfl⟩
      have HAG := Lib.hid hag; have HCL := Lib.hid hcl
      rw [hag, hcl]
      clear hag hcl hy'
      go_wp2_with (fail)
      obtain ⟨val, hval⟩ : ∃ val, decide (128 ≤ y) = val := ⟨_, rfl⟩
      rw [hval]
      obtain ⟨o1, z1, HO1, HZ1, HL1, HV⟩ : ∃ o1 z1 : Nat, o1 < 2 ^ 64 ∧ z1 < 2 ^ 64 ∧ (∀ x, ((litB v val).ev x && tD.ev x) = true ↔ Lits o1 z1 x) ∧ ((val = true → o1 = o ||| 2 ^ v ∧ z1 = z) ∧ (val = false → o1 = o ∧ z1 = z ||| 2 ^ v)) := by
        have hp : 2 ^ v < 2 ^ 64 := Nat.pow_lt_pow_right (by omega) (by omega)
        cases val
        · exact ⟨o, z ||| 2 ^ v, HO.out, Nat.or_lt_two_pow HZ.out hp, fun x => by rw [Lits.none, Bool.and_eq_true, HL.out x, litB_ev]; cases x v <;> simp, (fun h => by cases h), fun _ => ⟨rfl, rfl⟩⟩
        · exact ⟨o ||| 2 ^ v, z, Nat.or_lt_two_pow HO.out hp, HZ.out, fun x => by rw [Lits.one, Bool.and_eq_true, HL.out x, litB_ev]; cases x v <;> simp, fun _ => ⟨rfl, rfl⟩, (fun h => by cases h)⟩
      replace HO1 := Lib.hid HO1; replace HZ1 := Lib.hid HZ1; replace HL1 := Lib.hid HL1; replace HV := Lib.hid HV
      have BD : Below wr.heap.size wr wr.drew := (Below.refl _ wr).drew
      replace ID := Lib.hid (ID.out.below BD)
      replace BW := Lib.hid (BW.out.drew)
      obtain ⟨u, hu⟩ : ∃ u, wr.drew = u := ⟨_, rfl⟩
      rw [hu] at ID BW
      clear BD hval cc hy
      refine wp_region_held_drew (S := fun w' => w'.cell? ⟨bD, 0, none⟩ = some (.slice aD tD.canon.nodes.length cD) ∧ w'.cell? ⟨bD, 1, none⟩ = some (.int .i64 tD.canon.root)) (by kernel_rfl) (by rw [hu]; exact box2 ID.out.box) (fun hS => ?_)
      rw [hu] at hS ⊢
      clear hu
      refine wpAnyH_take (i := 0) (v := .int .i64 (v : Int)) rfl (by kernel_rfl) (by kernel_rfl) (by kernel_rfl) (fun _ _ _ h => h) (Or.inl ⟨by rfl, ?_⟩) hS ?_
      · intro w hSw
        go_split_ands
        go_simp
      try simp only [Act.put, List.getElem_toArray, List.getElem_cons_zero, List.getElem_cons_succ, List.setIfInBounds_toArray, List.set_cons_zero, List.set_cons_succ]
      refine wpAnyH_take (i := 1) (v := .bool val) rfl (by kernel_rfl) (by kernel_rfl) (by kernel_rfl) (fun _ _ _ h => h) (Or.inl ⟨by rfl, ?_⟩) hS ?_
      · intro w hSw
        go_split_ands
        go_simp
      try simp only [Act.put, List.getElem_toArray, List.getElem_cons_zero, List.getElem_cons_succ, List.setIfInBounds_toArray, List.set_cons_zero, List.set_cons_succ]
      refine wpAnyH_take (i := 3) (v := (dval aD cD tD)) rfl (by kernel_rfl) (by kernel_rfl) (by kernel_rfl) (fun _ _ _ h => h) (Or.inl ⟨by rfl, ?_⟩) hS ?_
      · intro w hSw
        go_split_ands
        go_simp
      try simp only [Act.put, List.getElem_toArray, List.getElem_cons_zero, List.getElem_cons_succ, List.setIfInBounds_toArray, List.set_cons_zero, List.set_cons_succ]
      refine wpAnyH_ready (rs := [2, 8]) (by kernel_rfl) (by simp) ?_
      refine AllReadyH.cons rfl (fun K hK => ?_) (AllReadyH.cons rfl (fun K hK => ?_) (AllReadyH.nil))
      focus
        try simp only [Act.put, List.getElem_toArray, List.getElem_cons_zero, List.getElem_cons_succ, List.setIfInBounds_toArray, List.set_cons_zero, List.set_cons_succ]
        go_simp
        refine (literal_t u v hv6 val).mono ?_
        rintro e1 uL ⟨⟨aL, cL, rfl, tdL⟩, hb5⟩
        replace ID := Lib.hid (ID.out.below hb5)
        replace BW := Lib.hid (BW.out.trans (hb5.mono BW.out.size))

        have TL := Lib.hid tdL
        clear hb5 tdL
        refine hK.out _ _ (box2 ID.out.box) (fun hS => ?_)
        clear hK K
        try simp only [Act.put, List.getElem_toArray, List.getElem_cons_zero, List.getElem_cons_succ, List.setIfInBounds_toArray, List.set_cons_zero, List.set_cons_succ]
        refine wpAnyH_ready (rs := [4, 8]) (by kernel_rfl) (by simp) ?_
        refine AllReadyH.cons rfl (fun K hK => ?_) (AllReadyH.cons rfl (fun K hK => ?_) (AllReadyH.nil))
        focus
          try simp only [Act.put, List.getElem_toArray, List.getElem_cons_zero, List.getElem_cons_succ, List.setIfInBounds_toArray, List.set_cons_zero, List.set_cons_succ]
          go_simp
          refine (and_t TL.out ID.out.td (few_lits HO1.out HZ1.out HL1.out)).mono ?_
          rintro e1 uR ⟨hR, hb6⟩
          obtain ⟨aQ, cQ, tQ, rfl, evQ, tdQ, hMQ⟩ := hR
          have DQ := Lib.hid (hMQ (fun q => q = bD) (fun q hq => by have h1 := heap_lt ID.out.box; omega))
          have OKQ := Lib.hid tdQ.ok; have LNQ := Lib.hid tdQ.len
          have HLQ : Hid (∀ x, tQ.ev x = true ↔ Lits o1 z1 x) := by intro x; rw [evQ x]; exact HL1.out x
          have EVQ : Hid (tQ.ev (bits q) = ((bits q v == val) && tD.ev (bits q))) := by show _ = _; rw [evQ (bits q)]; show ((litB v val).ev (bits q) && tD.ev (bits q)) = _; rw [litB_ev]
          replace ID := Lib.hid (ID.out.below hb6)
          replace BW := Lib.hid (BW.out.trans (hb6.mono BW.out.size))

          clear hb6 evQ tdQ hMQ TL
          refine hK.out _ _ (box2 ID.out.box) (fun hS => ?_)
          clear hK K
          try simp only [Act.put, List.getElem_toArray, List.getElem_cons_zero, List.getElem_cons_succ, List.setIfInBounds_toArray, List.set_cons_zero, List.set_cons_succ]
          refine wpAnyH_take (i := 5) (v := .tuple #[dval aQ cQ tQ, .int .i64 0]) rfl (by kernel_rfl) (by kernel_rfl) (by kernel_rfl) (fun _ _ _ h => h) (Or.inl ⟨by rfl, ?_⟩) hS ?_
          · intro w hSw
            go_split_ands
            go_simp
          try simp only [Act.put, List.getElem_toArray, List.getElem_cons_zero, List.getElem_cons_succ, List.setIfInBounds_toArray, List.set_cons_zero, List.set_cons_succ]
          refine wpAnyH_take (i := 6) (v := (dval aQ cQ tQ)) rfl (by kernel_rfl) (by kernel_rfl) (by kernel_rfl) (fun _ _ _ h => h) (Or.inl ⟨by rfl, ?_⟩) hS ?_
          · intro w hSw
            go_split_ands
            go_simp
          try simp only [Act.put, List.getElem_toArray, List.getElem_cons_zero, List.getElem_cons_succ, List.setIfInBounds_toArray, List.set_cons_zero, List.set_cons_succ]
          refine wpAnyH_take (i := 7) (v := .int .i64 0) rfl (by kernel_rfl) (by kernel_rfl) (by kernel_rfl) (fun _ _ _ h => h) (Or.inl ⟨by rfl, ?_⟩) hS ?_
          · intro w hSw
            go_split_ands
            go_simp
          try simp only [Act.put, List.getElem_toArray, List.getElem_cons_zero, List.getElem_cons_succ, List.setIfInBounds_toArray, List.set_cons_zero, List.set_cons_succ]
          refine wpAnyH_ready (rs := [8]) (by kernel_rfl) (by simp) ?_
          refine AllReadyH.cons rfl (fun K hK => ?_) (AllReadyH.nil)
          focus
            try simp only [Act.put, List.getElem_toArray, List.getElem_cons_zero, List.getElem_cons_succ, List.setIfInBounds_toArray, List.set_cons_zero, List.set_cons_succ]
            obtain ⟨uX, bX, eX, hBX, zX, hX, BX⟩ := laid uR dg0 28
            have NX : Hid (bD ≠ bX ∧ w.heap.size ≤ bX) := by
              have h1 := heap_lt ID.out.box; have h2 := BW.out.size
              show _ ∧ _
              omega
            replace DQ := Lib.hid (DQ.out.newer (M' := fun q => q = bD ∨ q = bX) BX (fun q hq => hq.elim .inl (fun h => .inr (by omega))))
            replace ID := Lib.hid (ID.out.below BX)
            replace BW := Lib.hid (BW.out.trans (BX.mono BW.out.size))
            have KX := Lib.hid hX
            go_simp
            clear hX BX eX hBX zX
            refine hK.out _ _ (box2 ID.out.box) (fun hS => ?_)
            clear hK K
            try simp only [Act.put, List.getElem_toArray, List.getElem_cons_zero, List.getElem_cons_succ, List.setIfInBounds_toArray, List.set_cons_zero, List.set_cons_succ]
        rotate_right
        focus
          try simp only [Act.put, List.getElem_toArray, List.getElem_cons_zero, List.getElem_cons_succ, List.setIfInBounds_toArray, List.set_cons_zero, List.set_cons_succ]
          obtain ⟨uX, bX, eX, hBX, zX, hX, BX⟩ := laid uL dg0 28
          have NX : Hid (bD ≠ bX ∧ w.heap.size ≤ bX) := by
            have h1 := heap_lt ID.out.box; have h2 := BW.out.size
            show _ ∧ _
            omega

          replace ID := Lib.hid (ID.out.below BX)
          replace TL := Lib.hid (TL.out.below BX)
          replace BW := Lib.hid (BW.out.trans (BX.mono BW.out.size))
          have KX := Lib.hid hX
          go_simp
          clear hX BX eX hBX zX
          refine hK.out _ _ (box2 ID.out.box) (fun hS => ?_)
          clear hK K
          try simp only [Act.put, List.getElem_toArray, List.getElem_cons_zero, List.getElem_cons_succ, List.setIfInBounds_toArray, List.set_cons_zero, List.set_cons_succ]
          refine wpAnyH_ready (rs := [4]) (by kernel_rfl) (by simp) ?_
          refine AllReadyH.cons rfl (fun K hK => ?_) (AllReadyH.nil)
          focus
            try simp only [Act.put, List.getElem_toArray, List.getElem_cons_zero, List.getElem_cons_succ, List.setIfInBounds_toArray, List.set_cons_zero, List.set_cons_succ]
            go_simp
            refine (and_t TL.out ID.out.td (few_lits HO1.out HZ1.out HL1.out)).mono ?_
            rintro e1 uR ⟨hR, hb6⟩
            obtain ⟨aQ, cQ, tQ, rfl, evQ, tdQ, hMQ⟩ := hR
            have DQ := Lib.hid (hMQ (fun q => q = bD ∨ q = bX) (fun q hq => by have h2 := heap_lt KX.out; have h1 := heap_lt ID.out.box; omega))
            have OKQ := Lib.hid tdQ.ok; have LNQ := Lib.hid tdQ.len
            have HLQ : Hid (∀ x, tQ.ev x = true ↔ Lits o1 z1 x) := by intro x; rw [evQ x]; exact HL1.out x
            have EVQ : Hid (tQ.ev (bits q) = ((bits q v == val) && tD.ev (bits q))) := by show _ = _; rw [evQ (bits q)]; show ((litB v val).ev (bits q) && tD.ev (bits q)) = _; rw [litB_ev]
            replace ID := Lib.hid (ID.out.below hb6)
            replace BW := Lib.hid (BW.out.trans (hb6.mono BW.out.size))
            replace KX := Lib.hid (heap_below hb6 KX.out)
            clear hb6 evQ tdQ hMQ TL
            refine hK.out _ _ (box2 ID.out.box) (fun hS => ?_)
            clear hK K
            try simp only [Act.put, List.getElem_toArray, List.getElem_cons_zero, List.getElem_cons_succ, List.setIfInBounds_toArray, List.set_cons_zero, List.set_cons_succ]
            refine wpAnyH_take (i := 5) (v := .tuple #[dval aQ cQ tQ, .int .i64 0]) rfl (by kernel_rfl) (by kernel_rfl) (by kernel_rfl) (fun _ _ _ h => h) (Or.inl ⟨by rfl, ?_⟩) hS ?_
            · intro w hSw
              go_split_ands
              go_simp
            try simp only [Act.put, List.getElem_toArray, List.getElem_cons_zero, List.getElem_cons_succ, List.setIfInBounds_toArray, List.set_cons_zero, List.set_cons_succ]
            refine wpAnyH_take (i := 6) (v := (dval aQ cQ tQ)) rfl (by kernel_rfl) (by kernel_rfl) (by kernel_rfl) (fun _ _ _ h => h) (Or.inl ⟨by rfl, ?_⟩) hS ?_
            · intro w hSw
              go_split_ands
              go_simp
            try simp only [Act.put, List.getElem_toArray, List.getElem_cons_zero, List.getElem_cons_succ, List.setIfInBounds_toArray, List.set_cons_zero, List.set_cons_succ]
            refine wpAnyH_take (i := 7) (v := .int .i64 0) rfl (by kernel_rfl) (by kernel_rfl) (by kernel_rfl) (fun _ _ _ h => h) (Or.inl ⟨by rfl, ?_⟩) hS ?_
            · intro w hSw
              go_split_ands
              go_simp
            try simp only [Act.put, List.getElem_toArray, List.getElem_cons_zero, List.getElem_cons_succ, List.setIfInBounds_toArray, List.set_cons_zero, List.set_cons_succ]
            obtain ⟨uX, huX⟩ : ∃ uX, uR = uX := ⟨_, rfl⟩
            rw [huX] at ID BW KX DQ hS ⊢
            clear huX
      rotate_right
      focus
        try simp only [Act.put, List.getElem_toArray, List.getElem_cons_zero, List.getElem_cons_succ, List.setIfInBounds_toArray, List.set_cons_zero, List.set_cons_succ]
        obtain ⟨uX, bX, eX, hBX, zX, hX, BX⟩ := laid u dg0 28
        have NX : Hid (bD ≠ bX ∧ w.heap.size ≤ bX) := by
          have h1 := heap_lt ID.out.box; have h2 := BW.out.size
          show _ ∧ _
          omega

        replace ID := Lib.hid (ID.out.below BX)
        replace BW := Lib.hid (BW.out.trans (BX.mono BW.out.size))
        have KX := Lib.hid hX
        go_simp
        clear hX BX eX hBX zX
        refine hK.out _ _ (box2 ID.out.box) (fun hS => ?_)
        clear hK K
        try simp only [Act.put, List.getElem_toArray, List.getElem_cons_zero, List.getElem_cons_succ, List.setIfInBounds_toArray, List.set_cons_zero, List.set_cons_succ]
        refine wpAnyH_ready (rs := [2]) (by kernel_rfl) (by simp) ?_
        refine AllReadyH.cons rfl (fun K hK => ?_) (AllReadyH.nil)
        focus
          try simp only [Act.put, List.getElem_toArray, List.getElem_cons_zero, List.getElem_cons_succ, List.setIfInBounds_toArray, List.set_cons_zero, List.set_cons_succ]
          go_simp
          refine (literal_t uX v hv6 val).mono ?_
          rintro e1 uL ⟨⟨aL, cL, rfl, tdL⟩, hb5⟩
          replace ID := Lib.hid (ID.out.below hb5)
          replace BW := Lib.hid (BW.out.trans (hb5.mono BW.out.size))
          replace KX := Lib.hid (heap_below hb5 KX.out)
          have TL := Lib.hid tdL
          clear hb5 tdL
          refine hK.out _ _ (box2 ID.out.box) (fun hS => ?_)
          clear hK K
          try simp only [Act.put, List.getElem_toArray, List.getElem_cons_zero, List.getElem_cons_succ, List.setIfInBounds_toArray, List.set_cons_zero, List.set_cons_succ]
          refine wpAnyH_ready (rs := [4]) (by kernel_rfl) (by simp) ?_
          refine AllReadyH.cons rfl (fun K hK => ?_) (AllReadyH.nil)
          focus
            try simp only [Act.put, List.getElem_toArray, List.getElem_cons_zero, List.getElem_cons_succ, List.setIfInBounds_toArray, List.set_cons_zero, List.set_cons_succ]
            go_simp
            refine (and_t TL.out ID.out.td (few_lits HO1.out HZ1.out HL1.out)).mono ?_
            rintro e1 uR ⟨hR, hb6⟩
            obtain ⟨aQ, cQ, tQ, rfl, evQ, tdQ, hMQ⟩ := hR
            have DQ := Lib.hid (hMQ (fun q => q = bD ∨ q = bX) (fun q hq => by have h2 := heap_lt KX.out; have h1 := heap_lt ID.out.box; omega))
            have OKQ := Lib.hid tdQ.ok; have LNQ := Lib.hid tdQ.len
            have HLQ : Hid (∀ x, tQ.ev x = true ↔ Lits o1 z1 x) := by intro x; rw [evQ x]; exact HL1.out x
            have EVQ : Hid (tQ.ev (bits q) = ((bits q v == val) && tD.ev (bits q))) := by show _ = _; rw [evQ (bits q)]; show ((litB v val).ev (bits q) && tD.ev (bits q)) = _; rw [litB_ev]
            replace ID := Lib.hid (ID.out.below hb6)
            replace BW := Lib.hid (BW.out.trans (hb6.mono BW.out.size))
            replace KX := Lib.hid (heap_below hb6 KX.out)
            clear hb6 evQ tdQ hMQ TL
            refine hK.out _ _ (box2 ID.out.box) (fun hS => ?_)
            clear hK K
            try simp only [Act.put, List.getElem_toArray, List.getElem_cons_zero, List.getElem_cons_succ, List.setIfInBounds_toArray, List.set_cons_zero, List.set_cons_succ]
            refine wpAnyH_take (i := 5) (v := .tuple #[dval aQ cQ tQ, .int .i64 0]) rfl (by kernel_rfl) (by kernel_rfl) (by kernel_rfl) (fun _ _ _ h => h) (Or.inl ⟨by rfl, ?_⟩) hS ?_
            · intro w hSw
              go_split_ands
              go_simp
            try simp only [Act.put, List.getElem_toArray, List.getElem_cons_zero, List.getElem_cons_succ, List.setIfInBounds_toArray, List.set_cons_zero, List.set_cons_succ]
            refine wpAnyH_take (i := 6) (v := (dval aQ cQ tQ)) rfl (by kernel_rfl) (by kernel_rfl) (by kernel_rfl) (fun _ _ _ h => h) (Or.inl ⟨by rfl, ?_⟩) hS ?_
            · intro w hSw
              go_split_ands
              go_simp
            try simp only [Act.put, List.getElem_toArray, List.getElem_cons_zero, List.getElem_cons_succ, List.setIfInBounds_toArray, List.set_cons_zero, List.set_cons_succ]
            refine wpAnyH_take (i := 7) (v := .int .i64 0) rfl (by kernel_rfl) (by kernel_rfl) (by kernel_rfl) (fun _ _ _ h => h) (Or.inl ⟨by rfl, ?_⟩) hS ?_
            · intro w hSw
              go_split_ands
              go_simp
            try simp only [Act.put, List.getElem_toArray, List.getElem_cons_zero, List.getElem_cons_succ, List.setIfInBounds_toArray, List.set_cons_zero, List.set_cons_succ]
            obtain ⟨uX, huX⟩ : ∃ uX, uR = uX := ⟨_, rfl⟩
            rw [huX] at ID BW KX DQ hS ⊢
            clear huX
      all_goals
        obtain ⟨s0, s1⟩ := box2 (r := 0) (S := .slice none 0 0) KX.out
        have sf := frozen_box KX.out
        have hNX := NX.out
        obtain ⟨u8, e8, P8, Q8, S8⟩ := put2 (w0 := w) (c0 := .slice aQ tQ.canon.nodes.length cQ) (c1 := .int .i64 tQ.canon.root) KX.out BW.out hNX.2
        replace KX := Lib.hid P8
        replace ID := Lib.hid ((S8.block bD (heap_lt ID.out.box) hNX.1).trans ID.out.box)
        replace DQ : Hid (DgAt u8 (fun q => q = bD) (dval aQ cQ tQ) tQ.canon) := (DQ.out.step (S8.wide (fun q hq => .inr hq))).wide (fun q hq => .inl hq)
        replace BW := Lib.hid Q8
        clear P8 Q8 S8
        refine wpAnyH_ready (rs := [9]) (by kernel_rfl) (by simp) ?_
        refine AllReadyH.cons rfl (fun K hK => ?_) (AllReadyH.nil)
        focus
          try simp only [Act.put, List.getElem_toArray, List.getElem_cons_zero, List.getElem_cons_succ, List.setIfInBounds_toArray, List.set_cons_zero, List.set_cons_succ]
          go_simp
          refine hK.out _ _ (box2 ID.out) (fun hS => ?_)
          clear hK K
          try simp only [Act.put, List.getElem_toArray, List.getElem_cons_zero, List.getElem_cons_succ, List.setIfInBounds_toArray, List.set_cons_zero, List.set_cons_succ]
        refine wpAnyH_ready (rs := [10]) (by kernel_rfl) (by simp) ?_
        refine AllReadyH.cons rfl (fun K hK => ?_) (AllReadyH.nil)
        focus
          try simp only [Act.put, List.getElem_toArray, List.getElem_cons_zero, List.getElem_cons_succ, List.setIfInBounds_toArray, List.set_cons_zero, List.set_cons_succ]
          go_simp
          refine hK.out _ _ (box2 ID.out) (fun hS => ?_)
          clear hK K
          try simp only [Act.put, List.getElem_toArray, List.getElem_cons_zero, List.getElem_cons_succ, List.setIfInBounds_toArray, List.set_cons_zero, List.set_cons_succ]
        refine wpAnyH_done (by kernel_rfl) ?_ _
        try simp only [Act.put, List.getElem_toArray, List.getElem_cons_zero, List.getElem_cons_succ, List.setIfInBounds_toArray, List.set_cons_zero, List.set_cons_succ]
        clear hS s0 s1 sf e8
        obtain ⟨x0, x1⟩ := box2 KX.out
        obtain ⟨y0, y1⟩ := box2 ID.out
        have yf := frozen_box ID.out
        obtain ⟨u9, e9, P9, Q9, S9⟩ := put2 (w0 := w) (c0 := .slice aQ tQ.canon.nodes.length cQ) (c1 := .int .i64 tQ.canon.root) ID.out BW.out NBD.out
        have IQ : Hid (In u9 (fun q => q = bD) bD aQ cQ tQ) := ⟨P9, DQ.out.step S9, OKQ.out, LNQ.out⟩
        replace BW := Lib.hid Q9
        clear P9 Q9 S9 ID DQ OKQ LNQ KX NX hNX
        have hor := or_shift o v HO.out hv6
        have hor' := or_shift z v HZ.out hv6
        have han := bits_and_u64_nat o1 z1 (by have := HO1.out; omega) (by have := HZ1.out; omega)
        cases val
        · obtain ⟨rfl, rfl⟩ := HV.out.2 rfl
          cases ag
          · cases cl
            · go_wp2_with (fail)
              go_roundw
              case rel => exact ⟨j + 1, _, _, aQ, cQ, tQ, by omega, by omega, by rw [EVQ.out, HAG.out]; cases bits q v <;> rfl, by rw [int_ne], rfl, rfl, by go_num, HO1, HZ1, HLQ, IQ, BW⟩
              case measure => simp [intOf]; omega
            · go_wp2_with (fail)
              go_roundw
              case rel => exact ⟨j + 1, _, _, aQ, cQ, tQ, by omega, by omega, by rw [EVQ.out, HAG.out]; cases bits q v <;> rfl, by rw [clash_mono2 (by simpa using HCL.out) _], rfl, rfl, by go_num, HO1, HZ1, HLQ, IQ, BW⟩
              case measure => simp [intOf]; omega
          · cases cl
            · go_wp2_with (fail)
              go_roundw
              case rel => exact ⟨j + 1, _, _, aQ, cQ, tQ, by omega, by omega, by rw [EVQ.out, HAG.out, bit_any]; cases bits q v <;> rfl, by rw [int_ne], rfl, rfl, by go_num, HO1, HZ1, HLQ, IQ, BW⟩
              case measure => simp [intOf]; omega
            · go_wp2_with (fail)
              go_roundw
              case rel => exact ⟨j + 1, _, _, aQ, cQ, tQ, by omega, by omega, by rw [EVQ.out, HAG.out, bit_any]; cases bits q v <;> rfl, by rw [clash_mono2 (by simpa using HCL.out) _], rfl, rfl, by go_num, HO1, HZ1, HLQ, IQ, BW⟩
              case measure => simp [intOf]; omega
        · obtain ⟨rfl, rfl⟩ := HV.out.1 rfl
          cases ag
          · cases cl
            · go_wp2_with (fail)
              go_roundw
              case rel => exact ⟨j + 1, _, _, aQ, cQ, tQ, by omega, by omega, by rw [EVQ.out, HAG.out]; cases bits q v <;> rfl, by rw [int_ne], rfl, rfl, by go_num, HO1, HZ1, HLQ, IQ, BW⟩
              case measure => simp [intOf]; omega
            · go_wp2_with (fail)
              go_roundw
              case rel => exact ⟨j + 1, _, _, aQ, cQ, tQ, by omega, by omega, by rw [EVQ.out, HAG.out]; cases bits q v <;> rfl, by rw [clash_mono1 (by simpa using HCL.out) _], rfl, rfl, by go_num, HO1, HZ1, HLQ, IQ, BW⟩
              case measure => simp [intOf]; omega
          · cases cl
            · go_wp2_with (fail)
              go_roundw
              case rel => exact ⟨j + 1, _, _, aQ, cQ, tQ, by omega, by omega, by rw [EVQ.out, HAG.out, bit_any]; cases bits q v <;> rfl, by rw [int_ne], rfl, rfl, by go_num, HO1, HZ1, HLQ, IQ, BW⟩
              case measure => simp [intOf]; omega
            · go_wp2_with (fail)
              go_roundw
              case rel => exact ⟨j + 1, _, _, aQ, cQ, tQ, by omega, by omega, by rw [EVQ.out, HAG.out, bit_any]; cases bits q v <;> rfl, by rw [clash_mono1 (by simpa using HCL.out) _], rfl, rfl, by go_num, HO1, HZ1, HLQ, IQ, BW⟩
              case measure => simp [intOf]; omega
    · by_cases h1 : j < xs.length
      · obtain rfl : j = 12 := by omega
        have hlt : (12 : Int) < (xs.length : Int) := by omega
        have hlt' : ((12 : Nat) : Int) < (xs.length : Int) := by omega
        obtain ⟨cl, hcl⟩ : ∃ cl, (o &&& z != 0) = cl := ⟨_, rfl⟩
        have HCL := Lib.hid hcl
        rw [hcl]
        clear hcl
        obtain ⟨y0, y1⟩ := box2 ID.out.box
        have LT := Lib.hid (least_t ID.out.td)
        cases cl
        · have hc0 : o &&& z = 0 := by simpa using HCL.out
          have hne := lits_ne HL.out hc0
          have hls := lits_least ID.out.ok HL.out hc0
          rw [if_neg hne, hls] at LT
          replace LT : Hid (Calls Try.prog 29 #[dval aD cD tD] wr fun e w' => e = .returned (.tuple #[.int .u64 (o : Int), .bool true]) ∧ Below wr.heap.size wr w') := LT.out.mono fun e w' h => ⟨h.1.trans (by simp [hne]), h.2⟩
          obtain ⟨ag, hag⟩ : ∃ ag, tD.ev (bits q) = ag := ⟨_, rfl⟩
          have HAG := Lib.hid hag
          rw [hag]
          clear hag hne hls
          go_wp2_with (fail)
          refine LT.out.mono ?_
          rintro e1 u1 ⟨rfl, hb1⟩
          replace ID := Lib.hid (ID.out.below hb1)
          replace BW := Lib.hid (BW.out.trans (hb1.mono BW.out.size))
          clear hb1 y0 y1 LT
          obtain ⟨y0, y1⟩ := box2 ID.out.box
          have hoo : ((o : Int) == (o : Int)) = true := by simp
          go_wp2_with (fail)
          refine (holds_k ID.out.td q hq2 ag HAG.out).mono ?_
          rintro e1 u2 ⟨rfl, hb1⟩
          replace ID := Lib.hid (ID.out.below hb1)
          replace BW := Lib.hid (BW.out.trans (hb1.mono BW.out.size))
          clear hb1 y0 y1
          obtain ⟨y0, y1⟩ := box2 ID.out.box
          have hgg : (ag == ag) = true := by simp
          have hand := u64_andNot_nat q z hq2 (by have := HZ.out; omega)
          have MV := lits_moved (c := q) HO.out HL.out hc0 HZ.out
          obtain ⟨g, hg⟩ : ∃ g, q &&& (18446744073709551615 - z) = g := ⟨_, rfl⟩
          have hgl : g < 18446744073709551616 := by rw [← hg]; exact Nat.lt_of_le_of_lt Nat.and_le_left hq2
          rw [hg] at hand MV
          have hor := bits_or_u64_nat g o hgl (by have := HO.out; omega)
          have hlt2 : g ||| o < 18446744073709551616 := by
            have h1 : g < 2 ^ 64 := by omega
            have := Nat.or_lt_two_pow h1 HO.out; omega
          clear hg
          go_wp2_with (fail)
          refine (holds_k ID.out.td (g ||| o) hlt2 true MV).mono ?_
          rintro e1 u3 ⟨rfl, hb1⟩
          have BF := Lib.hid (BW.out.trans (hb1.mono BW.out.size))
          clear hb1 y0 y1
          go_wp2_with (fail)
          go_ret
          exact ⟨by rfl, BF.out⟩
        · have hc0 : o &&& z ≠ 0 := by simpa using HCL.out
          obtain rfl := lits_leaf ID.out.ok HL.out hc0
          replace LT : Hid (Calls Try.prog 29 #[dval aD cD (.leaf false)] wr fun e w' => e = .returned (.tuple #[.int .u64 0, .bool false]) ∧ Below wr.heap.size wr w') := LT.out.mono fun e w' h => ⟨h.1.trans (by simp), h.2⟩
          go_wp2_with (fail)
          refine LT.out.mono ?_
          rintro e1 u1 ⟨rfl, hb1⟩
          replace ID := Lib.hid (ID.out.below hb1)
          replace BW := Lib.hid (BW.out.trans (hb1.mono BW.out.size))
          clear hb1 y0 y1 LT
          go_wp2_with (fail)
          have BD : Below u1.heap.size u1 u1.drew := (Below.refl _ u1).drew
          replace ID := Lib.hid (ID.out.below BD)
          replace BW := Lib.hid (BW.out.drew)
          clear BD
          refine wp_region_held_drew (S := fun w' => w'.cell? ⟨bD, 0, none⟩ = some (.slice aD (T.leaf false).canon.nodes.length cD) ∧ w'.cell? ⟨bD, 1, none⟩ = some (.int .i64 (T.leaf false).canon.root)) (by kernel_rfl) (box2 ID.out.box) (fun hS => ?_)
          refine wpAnyH_take (i := 0) (v := .bool false) rfl (by kernel_rfl) (by kernel_rfl) (by kernel_rfl) (fun _ _ _ h => h) (Or.inl ⟨by rfl, ?_⟩) hS ?_
          · intro w hSw
            go_split_ands
            go_simp
          try simp only [Act.put, List.getElem_toArray, List.getElem_cons_zero, List.getElem_cons_succ, List.setIfInBounds_toArray, List.set_cons_zero, List.set_cons_succ]
          refine wpAnyH_take (i := 1) (v := .bool true) rfl (by kernel_rfl) (by kernel_rfl) (by kernel_rfl) (fun _ _ _ h => h) (Or.inl ⟨by rfl, ?_⟩) hS ?_
          · intro w hSw
            go_split_ands
            go_simp
          try simp only [Act.put, List.getElem_toArray, List.getElem_cons_zero, List.getElem_cons_succ, List.setIfInBounds_toArray, List.set_cons_zero, List.set_cons_succ]
          refine wpAnyH_take (i := 2) (v := .bool true) rfl (by kernel_rfl) (by kernel_rfl) (by kernel_rfl) (fun _ _ _ h => h) (Or.inl ⟨by rfl, ?_⟩) hS ?_
          · intro w hSw
            go_split_ands
            go_simp
          try simp only [Act.put, List.getElem_toArray, List.getElem_cons_zero, List.getElem_cons_succ, List.setIfInBounds_toArray, List.set_cons_zero, List.set_cons_succ]
          refine wpAnyH_take (i := 3) (v := (dval aD cD (T.leaf false))) rfl (by kernel_rfl) (by kernel_rfl) (by kernel_rfl) (fun _ _ _ h => h) (Or.inl ⟨by rfl, ?_⟩) hS ?_
          · intro w hSw
            go_split_ands
            go_simp
          try simp only [Act.put, List.getElem_toArray, List.getElem_cons_zero, List.getElem_cons_succ, List.setIfInBounds_toArray, List.set_cons_zero, List.set_cons_succ]
          refine wpAnyH_ready (rs := [4]) (by kernel_rfl) (by simp) ?_
          refine AllReadyH.cons rfl (fun K hK => ?_) (AllReadyH.nil)
          focus
            try simp only [Act.put, List.getElem_toArray, List.getElem_cons_zero, List.getElem_cons_succ, List.setIfInBounds_toArray, List.set_cons_zero, List.set_cons_succ]
            go_simp
            refine (constant_t _ false).mono ?_
            rintro e1 u2 ⟨⟨aE, cE, rfl, tdE⟩, hb1⟩
            replace ID := Lib.hid (ID.out.below hb1)
            replace BW := Lib.hid (BW.out.trans (hb1.mono BW.out.size))
            have TE := Lib.hid tdE
            clear hb1 tdE
            refine hK.out _ _ (box2 ID.out.box) (fun hS => ?_)
            clear hK K
            try simp only [Act.put, List.getElem_toArray, List.getElem_cons_zero, List.getElem_cons_succ, List.setIfInBounds_toArray, List.set_cons_zero, List.set_cons_succ]
          refine wpAnyH_ready (rs := [5]) (by kernel_rfl) (by simp) ?_
          refine AllReadyH.cons rfl (fun K hK => ?_) (AllReadyH.nil)
          focus
            try simp only [Act.put, List.getElem_toArray, List.getElem_cons_zero, List.getElem_cons_succ, List.setIfInBounds_toArray, List.set_cons_zero, List.set_cons_succ]
            go_simp
            refine (same_k ID.out.td TE.out).mono ?_
            rintro e1 u3 ⟨rfl, hb1⟩
            replace ID := Lib.hid (ID.out.below hb1)
            replace BW := Lib.hid (BW.out.trans (hb1.mono BW.out.size))
            clear hb1
            refine hK.out _ _ (box2 ID.out.box) (fun hS => ?_)
            clear hK K
            try simp only [Act.put, List.getElem_toArray, List.getElem_cons_zero, List.getElem_cons_succ, List.setIfInBounds_toArray, List.set_cons_zero, List.set_cons_succ]
          refine wpAnyH_take (i := 6) (v := .bool true) rfl (by kernel_rfl) (by kernel_rfl) (by kernel_rfl) (fun _ _ _ h => h) (Or.inl ⟨by rfl, ?_⟩) hS ?_
          · intro w hSw
            go_split_ands
            go_simp
          try simp only [Act.put, List.getElem_toArray, List.getElem_cons_zero, List.getElem_cons_succ, List.setIfInBounds_toArray, List.set_cons_zero, List.set_cons_succ]
          refine wpAnyH_take (i := 7) (v := .bool true) rfl (by kernel_rfl) (by kernel_rfl) (by kernel_rfl) (fun _ _ _ h => h) (Or.inl ⟨by rfl, ?_⟩) hS ?_
          · intro w hSw
            go_split_ands
            go_simp
          try simp only [Act.put, List.getElem_toArray, List.getElem_cons_zero, List.getElem_cons_succ, List.setIfInBounds_toArray, List.set_cons_zero, List.set_cons_succ]
          refine wpAnyH_take (i := 8) (v := .bool true) rfl (by kernel_rfl) (by kernel_rfl) (by kernel_rfl) (fun _ _ _ h => h) (Or.inl ⟨by rfl, ?_⟩) hS ?_
          · intro w hSw
            go_split_ands
            go_simp
          try simp only [Act.put, List.getElem_toArray, List.getElem_cons_zero, List.getElem_cons_succ, List.setIfInBounds_toArray, List.set_cons_zero, List.set_cons_succ]
          refine wpAnyH_take (i := 9) (v := .bool true) rfl (by kernel_rfl) (by kernel_rfl) (by kernel_rfl) (fun _ _ _ h => h) (Or.inl ⟨by rfl, ?_⟩) hS ?_
          · intro w hSw
            go_split_ands
            go_simp
          try simp only [Act.put, List.getElem_toArray, List.getElem_cons_zero, List.getElem_cons_succ, List.setIfInBounds_toArray, List.set_cons_zero, List.set_cons_succ]
          refine wpAnyH_ready (rs := [10]) (by kernel_rfl) (by simp) ?_
          refine AllReadyH.cons rfl (fun K hK => ?_) (AllReadyH.nil)
          focus
            try simp only [Act.put, List.getElem_toArray, List.getElem_cons_zero, List.getElem_cons_succ, List.setIfInBounds_toArray, List.set_cons_zero, List.set_cons_succ]
            go_simp
            refine hK.out _ _ (box2 ID.out.box) (fun hS => ?_)
            clear hK K
            try simp only [Act.put, List.getElem_toArray, List.getElem_cons_zero, List.getElem_cons_succ, List.setIfInBounds_toArray, List.set_cons_zero, List.set_cons_succ]
          refine wpAnyH_done (by kernel_rfl) ?_ _
          try simp only [Act.put, List.getElem_toArray, List.getElem_cons_zero, List.getElem_cons_succ, List.setIfInBounds_toArray, List.set_cons_zero, List.set_cons_succ]
          clear hS
          go_wp2_with (fail)
          go_ret
          exact ⟨by rfl, BW.out⟩
      · have hlt : ¬ ((j : Int) < (xs.length : Int)) := by omega
        obtain ⟨cl, hcl⟩ : ∃ cl, (o &&& z != 0) = cl := ⟨_, rfl⟩
        have HCL := Lib.hid hcl
        rw [hcl]
        clear hcl
        obtain ⟨y0, y1⟩ := box2 ID.out.box
        have LT := Lib.hid (least_t ID.out.td)
        cases cl
        · have hc0 : o &&& z = 0 := by simpa using HCL.out
          have hne := lits_ne HL.out hc0
          have hls := lits_least ID.out.ok HL.out hc0
          rw [if_neg hne, hls] at LT
          replace LT : Hid (Calls Try.prog 29 #[dval aD cD tD] wr fun e w' => e = .returned (.tuple #[.int .u64 (o : Int), .bool true]) ∧ Below wr.heap.size wr w') := LT.out.mono fun e w' h => ⟨h.1.trans (by simp [hne]), h.2⟩
          obtain ⟨ag, hag⟩ : ∃ ag, tD.ev (bits q) = ag := ⟨_, rfl⟩
          have HAG := Lib.hid hag
          rw [hag]
          clear hag hne hls
          go_wp2_with (fail)
          refine LT.out.mono ?_
          rintro e1 u1 ⟨rfl, hb1⟩
          replace ID := Lib.hid (ID.out.below hb1)
          replace BW := Lib.hid (BW.out.trans (hb1.mono BW.out.size))
          clear hb1 y0 y1 LT
          obtain ⟨y0, y1⟩ := box2 ID.out.box
          have hoo : ((o : Int) == (o : Int)) = true := by simp
          go_wp2_with (fail)
          refine (holds_k ID.out.td q hq2 ag HAG.out).mono ?_
          rintro e1 u2 ⟨rfl, hb1⟩
          replace ID := Lib.hid (ID.out.below hb1)
          replace BW := Lib.hid (BW.out.trans (hb1.mono BW.out.size))
          clear hb1 y0 y1
          obtain ⟨y0, y1⟩ := box2 ID.out.box
          have hgg : (ag == ag) = true := by simp
          have hand := u64_andNot_nat q z hq2 (by have := HZ.out; omega)
          have MV := lits_moved (c := q) HO.out HL.out hc0 HZ.out
          obtain ⟨g, hg⟩ : ∃ g, q &&& (18446744073709551615 - z) = g := ⟨_, rfl⟩
          have hgl : g < 18446744073709551616 := by rw [← hg]; exact Nat.lt_of_le_of_lt Nat.and_le_left hq2
          rw [hg] at hand MV
          have hor := bits_or_u64_nat g o hgl (by have := HO.out; omega)
          have hlt2 : g ||| o < 18446744073709551616 := by
            have h1 : g < 2 ^ 64 := by omega
            have := Nat.or_lt_two_pow h1 HO.out; omega
          clear hg
          go_wp2_with (fail)
          refine (holds_k ID.out.td (g ||| o) hlt2 true MV).mono ?_
          rintro e1 u3 ⟨rfl, hb1⟩
          have BF := Lib.hid (BW.out.trans (hb1.mono BW.out.size))
          clear hb1 y0 y1
          go_wp2_with (fail)
          go_ret
          exact ⟨by rfl, BF.out⟩
        · have hc0 : o &&& z ≠ 0 := by simpa using HCL.out
          obtain rfl := lits_leaf ID.out.ok HL.out hc0
          replace LT : Hid (Calls Try.prog 29 #[dval aD cD (.leaf false)] wr fun e w' => e = .returned (.tuple #[.int .u64 0, .bool false]) ∧ Below wr.heap.size wr w') := LT.out.mono fun e w' h => ⟨h.1.trans (by simp), h.2⟩
          go_wp2_with (fail)
          refine LT.out.mono ?_
          rintro e1 u1 ⟨rfl, hb1⟩
          replace ID := Lib.hid (ID.out.below hb1)
          replace BW := Lib.hid (BW.out.trans (hb1.mono BW.out.size))
          clear hb1 y0 y1 LT
          go_wp2_with (fail)
          have BD : Below u1.heap.size u1 u1.drew := (Below.refl _ u1).drew
          replace ID := Lib.hid (ID.out.below BD)
          replace BW := Lib.hid (BW.out.drew)
          clear BD
          refine wp_region_held_drew (S := fun w' => w'.cell? ⟨bD, 0, none⟩ = some (.slice aD (T.leaf false).canon.nodes.length cD) ∧ w'.cell? ⟨bD, 1, none⟩ = some (.int .i64 (T.leaf false).canon.root)) (by kernel_rfl) (box2 ID.out.box) (fun hS => ?_)
          refine wpAnyH_take (i := 0) (v := .bool false) rfl (by kernel_rfl) (by kernel_rfl) (by kernel_rfl) (fun _ _ _ h => h) (Or.inl ⟨by rfl, ?_⟩) hS ?_
          · intro w hSw
            go_split_ands
            go_simp
          try simp only [Act.put, List.getElem_toArray, List.getElem_cons_zero, List.getElem_cons_succ, List.setIfInBounds_toArray, List.set_cons_zero, List.set_cons_succ]
          refine wpAnyH_take (i := 1) (v := .bool true) rfl (by kernel_rfl) (by kernel_rfl) (by kernel_rfl) (fun _ _ _ h => h) (Or.inl ⟨by rfl, ?_⟩) hS ?_
          · intro w hSw
            go_split_ands
            go_simp
          try simp only [Act.put, List.getElem_toArray, List.getElem_cons_zero, List.getElem_cons_succ, List.setIfInBounds_toArray, List.set_cons_zero, List.set_cons_succ]
          refine wpAnyH_take (i := 2) (v := .bool true) rfl (by kernel_rfl) (by kernel_rfl) (by kernel_rfl) (fun _ _ _ h => h) (Or.inl ⟨by rfl, ?_⟩) hS ?_
          · intro w hSw
            go_split_ands
            go_simp
          try simp only [Act.put, List.getElem_toArray, List.getElem_cons_zero, List.getElem_cons_succ, List.setIfInBounds_toArray, List.set_cons_zero, List.set_cons_succ]
          refine wpAnyH_take (i := 3) (v := (dval aD cD (T.leaf false))) rfl (by kernel_rfl) (by kernel_rfl) (by kernel_rfl) (fun _ _ _ h => h) (Or.inl ⟨by rfl, ?_⟩) hS ?_
          · intro w hSw
            go_split_ands
            go_simp
          try simp only [Act.put, List.getElem_toArray, List.getElem_cons_zero, List.getElem_cons_succ, List.setIfInBounds_toArray, List.set_cons_zero, List.set_cons_succ]
          refine wpAnyH_ready (rs := [4]) (by kernel_rfl) (by simp) ?_
          refine AllReadyH.cons rfl (fun K hK => ?_) (AllReadyH.nil)
          focus
            try simp only [Act.put, List.getElem_toArray, List.getElem_cons_zero, List.getElem_cons_succ, List.setIfInBounds_toArray, List.set_cons_zero, List.set_cons_succ]
            go_simp
            refine (constant_t _ false).mono ?_
            rintro e1 u2 ⟨⟨aE, cE, rfl, tdE⟩, hb1⟩
            replace ID := Lib.hid (ID.out.below hb1)
            replace BW := Lib.hid (BW.out.trans (hb1.mono BW.out.size))
            have TE := Lib.hid tdE
            clear hb1 tdE
            refine hK.out _ _ (box2 ID.out.box) (fun hS => ?_)
            clear hK K
            try simp only [Act.put, List.getElem_toArray, List.getElem_cons_zero, List.getElem_cons_succ, List.setIfInBounds_toArray, List.set_cons_zero, List.set_cons_succ]
          refine wpAnyH_ready (rs := [5]) (by kernel_rfl) (by simp) ?_
          refine AllReadyH.cons rfl (fun K hK => ?_) (AllReadyH.nil)
          focus
            try simp only [Act.put, List.getElem_toArray, List.getElem_cons_zero, List.getElem_cons_succ, List.setIfInBounds_toArray, List.set_cons_zero, List.set_cons_succ]
            go_simp
            refine (same_k ID.out.td TE.out).mono ?_
            rintro e1 u3 ⟨rfl, hb1⟩
            replace ID := Lib.hid (ID.out.below hb1)
            replace BW := Lib.hid (BW.out.trans (hb1.mono BW.out.size))
            clear hb1
            refine hK.out _ _ (box2 ID.out.box) (fun hS => ?_)
            clear hK K
            try simp only [Act.put, List.getElem_toArray, List.getElem_cons_zero, List.getElem_cons_succ, List.setIfInBounds_toArray, List.set_cons_zero, List.set_cons_succ]
          refine wpAnyH_take (i := 6) (v := .bool true) rfl (by kernel_rfl) (by kernel_rfl) (by kernel_rfl) (fun _ _ _ h => h) (Or.inl ⟨by rfl, ?_⟩) hS ?_
          · intro w hSw
            go_split_ands
            go_simp
          try simp only [Act.put, List.getElem_toArray, List.getElem_cons_zero, List.getElem_cons_succ, List.setIfInBounds_toArray, List.set_cons_zero, List.set_cons_succ]
          refine wpAnyH_take (i := 7) (v := .bool true) rfl (by kernel_rfl) (by kernel_rfl) (by kernel_rfl) (fun _ _ _ h => h) (Or.inl ⟨by rfl, ?_⟩) hS ?_
          · intro w hSw
            go_split_ands
            go_simp
          try simp only [Act.put, List.getElem_toArray, List.getElem_cons_zero, List.getElem_cons_succ, List.setIfInBounds_toArray, List.set_cons_zero, List.set_cons_succ]
          refine wpAnyH_take (i := 8) (v := .bool true) rfl (by kernel_rfl) (by kernel_rfl) (by kernel_rfl) (fun _ _ _ h => h) (Or.inl ⟨by rfl, ?_⟩) hS ?_
          · intro w hSw
            go_split_ands
            go_simp
          try simp only [Act.put, List.getElem_toArray, List.getElem_cons_zero, List.getElem_cons_succ, List.setIfInBounds_toArray, List.set_cons_zero, List.set_cons_succ]
          refine wpAnyH_take (i := 9) (v := .bool true) rfl (by kernel_rfl) (by kernel_rfl) (by kernel_rfl) (fun _ _ _ h => h) (Or.inl ⟨by rfl, ?_⟩) hS ?_
          · intro w hSw
            go_split_ands
            go_simp
          try simp only [Act.put, List.getElem_toArray, List.getElem_cons_zero, List.getElem_cons_succ, List.setIfInBounds_toArray, List.set_cons_zero, List.set_cons_succ]
          refine wpAnyH_ready (rs := [10]) (by kernel_rfl) (by simp) ?_
          refine AllReadyH.cons rfl (fun K hK => ?_) (AllReadyH.nil)
          focus
            try simp only [Act.put, List.getElem_toArray, List.getElem_cons_zero, List.getElem_cons_succ, List.setIfInBounds_toArray, List.set_cons_zero, List.set_cons_succ]
            go_simp
            refine hK.out _ _ (box2 ID.out.box) (fun hS => ?_)
            clear hK K
            try simp only [Act.put, List.getElem_toArray, List.getElem_cons_zero, List.getElem_cons_succ, List.setIfInBounds_toArray, List.set_cons_zero, List.set_cons_succ]
          refine wpAnyH_done (by kernel_rfl) ?_ _
          try simp only [Act.put, List.getElem_toArray, List.getElem_cons_zero, List.getElem_cons_succ, List.setIfInBounds_toArray, List.set_cons_zero, List.set_cons_succ]
          clear hS
          go_wp2_with (fail)
          go_ret
          exact ⟨by rfl, BW.out⟩

end Go.Proofs.Ytohmibmakelclaa

namespace Go.Proofs.Ytohmibmakelclaa.diagramLiteralsDone
set_option linter.unusedVariables false
set_option linter.unusedSimpArgs false
open Go.ChangeShapes Go.WideShapes Go.ChangeAt Go.RowKit Go.Proofs.Ytohmibmakelclaa

theorem own : ownKnob Try.prog.godebug = none := by kernel_rfl
theorem laidOut : laidOutB Try.prog = true := by kernel_rfl

set_option maxRecDepth 100000 in
theorem lifted (os : Os) (started : os.Started) (H : Type) (enc : TypeId × Value → H) :
    ReturnsInHanded {} Try.checked os 9 .any (Rows.diagramLiteralsSpec.pre6 enc Try.prog Try.f9 Rows.diagramLiteralsRow.domain false) (Rows.diagramLiteralsSpec.post enc Try.prog Try.f9 false true false false) := by
  refine returnsInHanded_of_change (C := Try.checked) own started (by kernel_rfl) Try.func9
    (ChangeSpec.witness6 (enc := enc) (C := Try.checked) false ⟨#[], #[.slice none 0 0, .int .u64 0], []⟩ 8 (by kernel_rfl) (by kernel_rfl) (by kernel_rfl) (by kernel_rfl)) ?_
  intro W base args ds gs before hval0 hW hcnd _
  have hval : ∀ (j : Nat) t v, Try.f9.params[j]? = some t → args[j]? = some v → Value.okWide Try.prog W .any base t v := hval0
  have hW' := hW
  obtain ⟨p, q, hA0, hV, rfl, hfz, hnd⟩ := hW
  have hA : DataW.TrodAll enc Try.prog W 0 (fun _ => true) true Try.f9.params.toList args.toList ds p := hA0
  rw [Try.params9] at hA hval
  obtain ⟨v0, vs0, d0, ds0, p0, q0, hargs, rfl, rfl, h0, r0⟩ := trodAll_cons hA
  obtain ⟨v1, vs1, d1, ds1, p1, q1, rfl, rfl, rfl, h1, r1⟩ := trodAll_cons r0
  obtain ⟨rfl, rfl, rfl⟩ := trodAll_nil r1
  obtain rfl : args = #[v0, v1] := by cases args; simp_all
  obtain ⟨rfl, rfl⟩ := trodVars_none hV
  obtain ⟨aa0, len0, cap0, rfl⟩ := okWide_slice Try.underlying22 (hval 0 22 v0 rfl rfl)
  have k0 := h0
  have lt0 : ∀ x ∈ p0, x.block < W.heap.size := by obtain ⟨m, hm⟩ := k0; exact DataW.trod_lt m _ _ _ hm
  obtain ⟨fuel0, hf0⟩ := h0
  obtain ⟨u0, x0, hu0, H0, I0⟩ := open_u8s hf0
  obtain rfl : u0 = .slice aa0 len0 cap0 := by simpa [Value.cells] using hu0.symm
  obtain ⟨a1, rfl, rfl, rfl, w1⟩ := open_int Try.underlying39 (hval 1 39 v1 rfl rfl) h1
  clear hA0 hval0
  refine (literalsLaw W _ x0 H0 I0 a1 (Go.bounds_u64 w1).1 (by have := (Go.bounds_u64 w1).2; omega)).mono fun e W' ⟨he, bel⟩ => ?_
  subst he
  exact ⟨_, rfl, _, _, _, [], _, [], hW', trodAll_mk1 (shut_bool Try.underlying4 _), (trodAll_cons_mk (Below.trod laidOut (by kernel_rfl) (of_decide_eq_true (by kernel_rfl)) k0 bel lt0) (trodAll_cons_mk (shut_int Try.underlying39 w1) trodAll_mk0)), rfl, bel.frame _, fun h => by cases h⟩

theorem over : Rows.diagramLiteralsRow.holds Try.pinned (OpenSpec.ofChange Rows.diagramLiteralsSpec) :=
  OpenClaim.holds_of_wide 9 Try.f9 rfl rfl rfl rfl rfl rfl rfl ⟨rfl, rfl, rfl, rfl, rfl⟩ rfl rfl rfl rfl rfl (by kernel_rfl) Try.func9 (by kernel_rfl)
    (of_decide_eq_true (by kernel_rfl)) (by unfold Func.isWrapper; first | (rw [if_pos (by decide +kernel)]; kernel_rfl) | (rw [if_neg (by decide +kernel)]; exact ⟨rfl, rfl⟩))
    (fun os started H enc _ => lifted os started H enc)

theorem proved : Rows.DiagramLiteralsSaid := over
#print axioms proved
end Go.Proofs.Ytohmibmakelclaa.diagramLiteralsDone
