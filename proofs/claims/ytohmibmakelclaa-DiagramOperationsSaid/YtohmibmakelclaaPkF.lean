/-
  The walk that combines three diagrams, at a place that it has not met: the first is a constant.
  Condition: diagrams of at most 4096 branches.
-/
import Derived.Test.YtohmibmakelclaaPkE
namespace Go.Proofs.Ytohmibmakelclaa
set_option linter.unusedVariables false
set_option linter.unusedSimpArgs false
open Go.RowKit

section
variable {w0 : World} {B : Nat} {fo : FuncId} {caps : Array Value} {op : Bool → Bool → Bool → Bool} {D0 D1 D2 : Dg} {S0 S1 S2 : Value} {po pm pl pa pb mb mk bb : Nat}

set_option maxRecDepth 100000 in
set_option maxHeartbeats 4000000 in
theorem at_newB (a b c a0 b0 c0 a1 b1 c1 : Nat) (L0 L1 L2 : Int) (v : Nat) (h2 : (a : Int) < 2) (h3 : 2 ≤ (b : Int)) (hw0 : Wf D0.nodes) (hw1 : Wf D1.nodes) (hw2 : Wf D2.nodes) (ha : a < D0.nodes.length + 2) (hb : b < D1.nodes.length + 2) (hc : c < D2.nodes.length + 2)
    (hn0 : D0.nodes.length ≤ 4096) (hn1 : D1.nodes.length ≤ 4096) (hn2 : D2.nodes.length ≤ 4096) (hL0 : level D0.nodes (a : Int) = L0) (hL1 : level D1.nodes (b : Int) = L1) (hL2 : level D2.nodes (c : Int) = L2) (hV : min (min L0 L1) L2 = (v : Int)) (hV1 : v < 64)
    (hs0 : sides D0.nodes (a : Int) (v : Int) = ((a0 : Int), (a1 : Int))) (hs1 : sides D1.nodes (b : Int) (v : Int) = ((b0 : Int), (b1 : Int))) (hs2 : sides D2.nodes (c : Int) (v : Int) = ((c0 : Int), (c1 : Int)))
    (hd0 : a0 + b0 + c0 < a + b + c) (hd1 : a1 + b1 + c1 < a + b + c) (L : AtDoes w0 B fo caps op D0 D1 D2 S0 S1 S2 po pm pl pa pb mb mk bb a0 b0 c0) (H : AtDoes w0 B fo caps op D0 D1 D2 S0 S1 S2 po pm pl pa pb mb mk bb a1 b1 c1)
    (hG : ∀ (ns : List Br) (l h : Nat), Wf ns → l < ns.length + 2 → h < ns.length + 2 → Good op (tr D0.nodes a0) (tr D1.nodes b0) (tr D2.nodes c0) (tr ns l) → Good op (tr D0.nodes a1) (tr D1.nodes b1) (tr D2.nodes c1) (tr ns h) → (v < (tr ns l).lv ∧ v < (tr ns h).lv) ∧ Good op (tr D0.nodes a) (tr D1.nodes b) (tr D2.nodes c) (if l = h then tr ns l else .node v (tr ns l) (tr ns h)))
    {w : World} {ns : List Br} {S : Value} {ms : List (Spot × Int)} (h : CInv w0 w B fo caps op D0 D1 D2 S0 S1 S2 po pm pl pa pb mb mk bb ns S ms) (hsn : ns.length ≤ ms.length) (hm : memF ms ((a : Int), (b : Int), (c : Int)) = none) :
    Calls Try.prog 97 (combArgs a b c po pm pl pa pb) w fun e w' =>
    ∃ (r : Nat) (x : List Br) (S' : Value) (y : List (Spot × Int)), e = .returned (.int .i64 (r : Int)) ∧ CInv w0 w' B fo caps op D0 D1 D2 S0 S1 S2 po pm pl pa pb mb mk bb (ns ++ x) S' (y ++ ms) ∧ Step (CM mb mk bb S) w (CM mb mk bb S') w' ∧
      r < (ns ++ x).length + 2 ∧ Good op (tr D0.nodes a) (tr D1.nodes b) (tr D2.nodes c) (tr (ns ++ x) r) ∧ (∀ p ∈ y, p.1.sum ≤ (a : Int) + b + c) ∧ (ns ++ x).length ≤ (y ++ ms).length := by
  obtain ⟨w1, bn, e1, hbn, hsz, hN, hb1⟩ := laid w (tri a b c) 114
  have h1 := h.below hb1
  have XN : Hid (∀ w' : World, w'.heap[bn]? = w1.heap[bn]? → w'.cell? ⟨bn, 0, none⟩ = some (.int .i64 (a : Int)) ∧ w'.cell? ⟨bn, 1, none⟩ = some (.int .i64 (b : Int)) ∧ w'.cell? ⟨bn, 2, none⟩ = some (.int .i64 (c : Int))) := fun w' hh => box3 (v := a) (l := b) (h := c) (hh.trans hN)
  obtain ⟨x0, x1, x2⟩ := XN.out w1 rfl
  have c0' := cell1_of h1.m
  obtain ⟨n, hn, hmap⟩ := h1.map
  have hr := hmap.look_ok law3 Try.underlying112 Try.underlying3 (zeroInt w1) ((a : Int), (b : Int), (c : Int)) (key3 _ ⟨by simp only; omega, by simp only; omega⟩ ⟨by simp only; omega, by simp only; omega⟩ ⟨by simp only; omega, by simp only; omega⟩)
  rw [hm] at hr
  simp only [val3, Option.getD_none, Option.isSome_none] at hr
  have lt1 : bn < w1.heap.size := by omega
  have SX : Hid (∀ w' : World, Below w1.heap.size w1 w' → w'.cell? ⟨bn, 0, none⟩ = some (.int .i64 (a : Int)) ∧ w'.cell? ⟨bn, 1, none⟩ = some (.int .i64 (b : Int)) ∧ w'.cell? ⟨bn, 2, none⟩ = some (.int .i64 (c : Int)) ∧ w'.cell? ⟨pl, 0, none⟩ = some S0 ∧ w'.cell? ⟨pl, 1, none⟩ = some (.int .i64 D0.root) ∧ w'.cell? ⟨pl, 2, none⟩ = some S1 ∧ w'.cell? ⟨pl, 3, none⟩ = some (.int .i64 D1.root) ∧ w'.cell? ⟨pl, 4, none⟩ = some S2 ∧ w'.cell? ⟨pl, 5, none⟩ = some (.int .i64 D2.root)) := fun w' hb => by
    obtain ⟨y0, y1, y2⟩ := XN.out w' (hb.block bn lt1)
    exact ⟨y0, y1, y2, box6 (heap_below hb h1.l)⟩
  have DQ : Hid (∀ w' : World, Below w1.heap.size w1 w' → DgAt w' NoB (.agg #[S0, .int .i64 D0.root]) D0 ∧ DgAt w' NoB (.agg #[S1, .int .i64 D1.root]) D1 ∧ DgAt w' NoB (.agg #[S2, .int .i64 D2.root]) D2) := fun w' hb =>
    ⟨(h1.d0.below hb).wide (fun k hk => hk.elim), (h1.d1.below hb).wide (fun k hk => hk.elim), (h1.d2.below hb).wide (fun k hk => hk.elim)⟩
  have H1 := Lib.hid h1; have HB := Lib.hid hb1; have HBN := Lib.hid hbn; have HN := Lib.hid hN; have HL := Lib.hid L; have HH := Lib.hid H; have HG := Lib.hid hG; have HM := Lib.hid hm; have HSN := Lib.hid hsn; have HW := Lib.hid h
  have HL0 := Lib.hid hL0; have HL1 := Lib.hid hL1; have HL2 := Lib.hid hL2; have HV := Lib.hid hV; have HS0 := Lib.hid hs0; have HS1 := Lib.hid hs1; have HS2 := Lib.hid hs2; have HD0 := Lib.hid hd0; have HD1 := Lib.hid hd1
  have HWF : Hid (Wf D0.nodes ∧ Wf D1.nodes ∧ Wf D2.nodes) := ⟨hw0, hw1, hw2⟩
  have LT1 := Lib.hid lt1
  clear h h1 hb1 hN hmap hm L H hG hsn hL0 hL1 hL2 hV hs0 hs1 hs2 hd0 hd1 hw0 hw1 hw2 hn n lt1 hsz
  unfold combArgs
  go_enter Try.func97, Try.ntmps97
  go_wp2_with (fail)
  have BW0 : Hid (Below w1.heap.size w1 w1.drew) := (Below.refl _ _).drew
  refine wp_region_held_drew (S := fun w' => w'.cell? ⟨bn, 0, none⟩ = some (.int .i64 (a : Int)) ∧ w'.cell? ⟨bn, 1, none⟩ = some (.int .i64 (b : Int)) ∧ w'.cell? ⟨bn, 2, none⟩ = some (.int .i64 (c : Int)) ∧ w'.cell? ⟨pl, 0, none⟩ = some S0 ∧ w'.cell? ⟨pl, 1, none⟩ = some (.int .i64 D0.root) ∧ w'.cell? ⟨pl, 2, none⟩ = some S1 ∧ w'.cell? ⟨pl, 3, none⟩ = some (.int .i64 D1.root) ∧ w'.cell? ⟨pl, 4, none⟩ = some S2 ∧ w'.cell? ⟨pl, 5, none⟩ = some (.int .i64 D2.root)) (by kernel_rfl) (SX.out _ BW0.out) (fun hS => ?_)
  refine wpAnyH_take (i := 0) (v := .pointer (some ⟨pl, 0, none⟩)) rfl (by kernel_rfl) (by kernel_rfl) (by kernel_rfl) (fun _ _ _ h => h) (Or.inl ⟨by rfl, ?_⟩) hS ?_
  · intro w hSw
    go_split_ands
    go_simp
  try simp only [Act.put, List.getElem_toArray, List.getElem_cons_zero, List.getElem_cons_succ, List.setIfInBounds_toArray, List.set_cons_zero, List.set_cons_succ]
  refine wpAnyH_take (i := 1) (v := .agg #[S0, .int .i64 D0.root]) rfl (by kernel_rfl) (by kernel_rfl) (by kernel_rfl) (fun _ _ _ h => h) (Or.inl ⟨by rfl, ?_⟩) hS ?_
  · intro w hSw
    go_split_ands
    go_simp
  try simp only [Act.put, List.getElem_toArray, List.getElem_cons_zero, List.getElem_cons_succ, List.setIfInBounds_toArray, List.set_cons_zero, List.set_cons_succ]
  refine wpAnyH_take (i := 2) (v := .pointer (some ⟨bn, 0, none⟩)) rfl (by kernel_rfl) (by kernel_rfl) (by kernel_rfl) (fun _ _ _ h => h) (Or.inl ⟨by rfl, ?_⟩) hS ?_
  · intro w hSw
    go_split_ands
    go_simp
  try simp only [Act.put, List.getElem_toArray, List.getElem_cons_zero, List.getElem_cons_succ, List.setIfInBounds_toArray, List.set_cons_zero, List.set_cons_succ]
  refine wpAnyH_take (i := 3) (v := .int .i64 (a : Int)) rfl (by kernel_rfl) (by kernel_rfl) (by kernel_rfl) (fun _ _ _ h => h) (Or.inl ⟨by rfl, ?_⟩) hS ?_
  · intro w hSw
    go_split_ands
    go_simp
  try simp only [Act.put, List.getElem_toArray, List.getElem_cons_zero, List.getElem_cons_succ, List.setIfInBounds_toArray, List.set_cons_zero, List.set_cons_succ]
  refine wpAnyH_take (i := 5) (v := .pointer (some ⟨pl, 2, none⟩)) rfl (by kernel_rfl) (by kernel_rfl) (by kernel_rfl) (fun _ _ _ h => h) (Or.inl ⟨by rfl, ?_⟩) hS ?_
  · intro w hSw
    go_split_ands
    go_simp
  try simp only [Act.put, List.getElem_toArray, List.getElem_cons_zero, List.getElem_cons_succ, List.setIfInBounds_toArray, List.set_cons_zero, List.set_cons_succ]
  refine wpAnyH_take (i := 6) (v := .agg #[S1, .int .i64 D1.root]) rfl (by kernel_rfl) (by kernel_rfl) (by kernel_rfl) (fun _ _ _ h => h) (Or.inl ⟨by rfl, ?_⟩) hS ?_
  · intro w hSw
    go_split_ands
    go_simp
  try simp only [Act.put, List.getElem_toArray, List.getElem_cons_zero, List.getElem_cons_succ, List.setIfInBounds_toArray, List.set_cons_zero, List.set_cons_succ]
  refine wpAnyH_take (i := 7) (v := .pointer (some ⟨bn, 1, none⟩)) rfl (by kernel_rfl) (by kernel_rfl) (by kernel_rfl) (fun _ _ _ h => h) (Or.inl ⟨by rfl, ?_⟩) hS ?_
  · intro w hSw
    go_split_ands
    go_simp
  try simp only [Act.put, List.getElem_toArray, List.getElem_cons_zero, List.getElem_cons_succ, List.setIfInBounds_toArray, List.set_cons_zero, List.set_cons_succ]
  refine wpAnyH_take (i := 8) (v := .int .i64 (b : Int)) rfl (by kernel_rfl) (by kernel_rfl) (by kernel_rfl) (fun _ _ _ h => h) (Or.inl ⟨by rfl, ?_⟩) hS ?_
  · intro w hSw
    go_split_ands
    go_simp
  try simp only [Act.put, List.getElem_toArray, List.getElem_cons_zero, List.getElem_cons_succ, List.setIfInBounds_toArray, List.set_cons_zero, List.set_cons_succ]
  refine wpAnyH_take (i := 10) (v := .pointer (some ⟨pl, 4, none⟩)) rfl (by kernel_rfl) (by kernel_rfl) (by kernel_rfl) (fun _ _ _ h => h) (Or.inl ⟨by rfl, ?_⟩) hS ?_
  · intro w hSw
    go_split_ands
    go_simp
  try simp only [Act.put, List.getElem_toArray, List.getElem_cons_zero, List.getElem_cons_succ, List.setIfInBounds_toArray, List.set_cons_zero, List.set_cons_succ]
  refine wpAnyH_take (i := 11) (v := .agg #[S2, .int .i64 D2.root]) rfl (by kernel_rfl) (by kernel_rfl) (by kernel_rfl) (fun _ _ _ h => h) (Or.inl ⟨by rfl, ?_⟩) hS ?_
  · intro w hSw
    go_split_ands
    go_simp
  try simp only [Act.put, List.getElem_toArray, List.getElem_cons_zero, List.getElem_cons_succ, List.setIfInBounds_toArray, List.set_cons_zero, List.set_cons_succ]
  refine wpAnyH_take (i := 12) (v := .pointer (some ⟨bn, 2, none⟩)) rfl (by kernel_rfl) (by kernel_rfl) (by kernel_rfl) (fun _ _ _ h => h) (Or.inl ⟨by rfl, ?_⟩) hS ?_
  · intro w hSw
    go_split_ands
    go_simp
  try simp only [Act.put, List.getElem_toArray, List.getElem_cons_zero, List.getElem_cons_succ, List.setIfInBounds_toArray, List.set_cons_zero, List.set_cons_succ]
  refine wpAnyH_take (i := 13) (v := .int .i64 (c : Int)) rfl (by kernel_rfl) (by kernel_rfl) (by kernel_rfl) (fun _ _ _ h => h) (Or.inl ⟨by rfl, ?_⟩) hS ?_
  · intro w hSw
    go_split_ands
    go_simp
  try simp only [Act.put, List.getElem_toArray, List.getElem_cons_zero, List.getElem_cons_succ, List.setIfInBounds_toArray, List.set_cons_zero, List.set_cons_succ]
  refine wpAnyH_ready (rs := [4]) (by kernel_rfl) (by simp) ?_
  refine AllReadyH.cons rfl (fun K hK => ?_) AllReadyH.nil
  try simp only [Act.put, List.getElem_toArray, List.getElem_cons_zero, List.getElem_cons_succ, List.setIfInBounds_toArray, List.set_cons_zero, List.set_cons_succ]
  go_simp
  refine (level_any w1.drew _ D0 (DQ.out _ BW0.out).1 (a : Int) (by omega)).mono ?_
  rintro e w2 ⟨rfl, hb⟩
  rw [HL0.out]
  have BW1 : Hid (Below w1.heap.size w1 w2) := BW0.out.trans (hb.mono BW0.out.size)
  clear hb
  refine hK.out _ _ (SX.out _ BW1.out) (fun hS => ?_)
  clear hK K
  try simp only [Act.put, List.getElem_toArray, List.getElem_cons_zero, List.getElem_cons_succ, List.setIfInBounds_toArray, List.set_cons_zero, List.set_cons_succ]
  refine wpAnyH_ready (rs := [9]) (by kernel_rfl) (by simp) ?_
  refine AllReadyH.cons rfl (fun K hK => ?_) AllReadyH.nil
  try simp only [Act.put, List.getElem_toArray, List.getElem_cons_zero, List.getElem_cons_succ, List.setIfInBounds_toArray, List.set_cons_zero, List.set_cons_succ]
  go_simp
  refine (level_any w2 _ D1 (DQ.out _ BW1.out).2.1 (b : Int) (by omega)).mono ?_
  rintro e w3 ⟨rfl, hb⟩
  rw [HL1.out]
  have BW2 : Hid (Below w1.heap.size w1 w3) := BW1.out.trans (hb.mono BW1.out.size)
  clear hb
  refine hK.out _ _ (SX.out _ BW2.out) (fun hS => ?_)
  clear hK K
  try simp only [Act.put, List.getElem_toArray, List.getElem_cons_zero, List.getElem_cons_succ, List.setIfInBounds_toArray, List.set_cons_zero, List.set_cons_succ]
  refine wpAnyH_ready (rs := [14]) (by kernel_rfl) (by simp) ?_
  refine AllReadyH.cons rfl (fun K hK => ?_) AllReadyH.nil
  try simp only [Act.put, List.getElem_toArray, List.getElem_cons_zero, List.getElem_cons_succ, List.setIfInBounds_toArray, List.set_cons_zero, List.set_cons_succ]
  go_simp
  refine (level_any w3 _ D2 (DQ.out _ BW2.out).2.2 (c : Int) (by omega)).mono ?_
  rintro e w4 ⟨rfl, hb⟩
  rw [HL2.out]
  have BW3 : Hid (Below w1.heap.size w1 w4) := BW2.out.trans (hb.mono BW2.out.size)
  clear hb
  refine hK.out _ _ (SX.out _ BW3.out) (fun hS => ?_)
  clear hK K
  try simp only [Act.put, List.getElem_toArray, List.getElem_cons_zero, List.getElem_cons_succ, List.setIfInBounds_toArray, List.set_cons_zero, List.set_cons_succ]
  refine wpAnyH_ready (rs := [15]) (by kernel_rfl) (by simp) ?_
  refine AllReadyH.cons rfl (fun K hK => ?_) AllReadyH.nil
  try simp only [Act.put, List.getElem_toArray, List.getElem_cons_zero, List.getElem_cons_succ, List.setIfInBounds_toArray, List.set_cons_zero, List.set_cons_succ]
  refine step_min3 (a := ⟨_, []⟩) rfl (.tmp 52) (.tmp 57) (.tmp 62) 3 rfl L0 L1 L2 (v : Int) rfl rfl rfl HV.out ?_
  refine hK.out _ _ (SX.out _ BW3.out) (fun hS => ?_)
  clear hK K
  try simp only [Act.put, List.getElem_toArray, List.getElem_cons_zero, List.getElem_cons_succ, List.setIfInBounds_toArray, List.set_cons_zero, List.set_cons_succ]
  refine wpAnyH_ready (rs := [16]) (by kernel_rfl) (by simp) ?_
  refine AllReadyH.cons rfl (fun K hK => ?_) AllReadyH.nil
  try simp only [Act.put, List.getElem_toArray, List.getElem_cons_zero, List.getElem_cons_succ, List.setIfInBounds_toArray, List.set_cons_zero, List.set_cons_succ]
  go_simp
  refine hK.out _ _ (SX.out _ BW3.out) (fun hS => ?_)
  clear hK K
  try simp only [Act.put, List.getElem_toArray, List.getElem_cons_zero, List.getElem_cons_succ, List.setIfInBounds_toArray, List.set_cons_zero, List.set_cons_succ]
  refine wpAnyH_done (by kernel_rfl) ?_ _
  try simp only [Act.put, List.getElem_toArray, List.getElem_cons_zero, List.getElem_cons_succ, List.setIfInBounds_toArray, List.set_cons_zero, List.set_cons_succ]
  obtain ⟨w5, bl, e5, hbl, hsz5, hBL, hb5⟩ := laid w4 (tri 0 0 0) 114
  obtain ⟨w6, bh, e6, hbh, hsz6, hBH, hb6⟩ := laid w5 (tri 0 0 0) 114
  obtain rfl : bh = bl + 1 := by omega
  have hBL6 : w6.heap[bl]? = some (.cells (fill 0 a0 b0 c0) 114 (0, 0)) := (hb6.block bl (by omega)).trans hBL
  have BB : Hid (Below w4.heap.size w4 w6) := hb5.trans (hb6.mono hb5.size)
  have BLS : Hid (bl = w4.heap.size) := hbl.symm
  have QL0 := Lib.hid hBL6
  have QH0 : Hid (w6.heap[bl + 1]? = some (.cells (fill 0 a1 b1 c1) 114 (0, 0))) := hBH
  clear hBL hBH hb5 hb6 hBL6
  go_wp2_with (fail)
  go_loopw [64] (fun i wr => ∃ j : Nat, j ≤ 3 ∧ i = .int .i64 j ∧ Hid (wr.heap[bl]? = some (.cells (fill j a0 b0 c0) 114 (0, 0))) ∧ Hid (wr.heap[bl + 1]? = some (.cells (fill j a1 b1 c1) 114 (0, 0))) ∧ Hid (Below w4.heap.size w4 wr)) (fun i _ => 3 - (intOf i).toNat)
  case atStart => exact ⟨0, by omega, rfl, QL0, QH0, BB⟩
  case round =>
    clear QL0 QH0 BB x0 x1 x2 e5 e6 hsz5 hsz6 hbh hbl hr c0' e1
    clear hS
    obtain ⟨j, hj, rfl, QL, QH, BR⟩ := hrel
    have B1r : Hid (Below w1.heap.size w1 wr) := BW3.out.trans (BR.out.mono BW3.out.size)
    by_cases hlt : j < 3
    · obtain ⟨Dj, Sj, xj, lj, hj', q0, q1, q2, hDj, hsd, hxl, f0, f1⟩ : ∃ (Dj : Dg) (Sj : Value) (xj lj hj' : Int), wr.cell? ⟨pl, j * 2, none⟩ = some Sj ∧ wr.cell? ⟨pl, j * 2 + 1, none⟩ = some (.int .i64 Dj.root) ∧ wr.cell? ⟨bn, j, none⟩ = some (.int .i64 xj) ∧ DgAt wr NoB (.agg #[Sj, .int .i64 Dj.root]) Dj ∧ sides Dj.nodes xj (v : Int) = (lj, hj') ∧ xj < Dj.nodes.length + 2 ∧ (fill j a0 b0 c0).setIfInBounds j (.int .i64 lj) = fill (j + 1) a0 b0 c0 ∧ (fill j a1 b1 c1).setIfInBounds j (.int .i64 hj') = fill (j + 1) a1 b1 c1 := by
        obtain ⟨y0, y1, y2, z0, z1, z2, z3, z4, z5⟩ := SX.out wr B1r.out
        obtain ⟨g0, g1, g2⟩ := DQ.out wr B1r.out
        have hcase : j = 0 ∨ j = 1 ∨ j = 2 := by omega
        rcases hcase with rfl | rfl | rfl
        · exact ⟨D0, S0, a, a0, a1, z0, z1, y0, g0, HS0.out, by omega, rfl, rfl⟩
        · exact ⟨D1, S1, b, b0, b1, z2, z3, y1, g1, HS1.out, by omega, rfl, rfl⟩
        · exact ⟨D2, S2, c, c0, c1, z4, z5, y2, g2, HS2.out, by omega, rfl, rfl⟩
      have hj0 : (0 : Int) ≤ (j : Int) := by omega
      have hj1 : (j : Int) < 3 := by omega
      have F0 := Lib.hid f0; have F1 := Lib.hid f1; have HSD := Lib.hid hsd; have HDJ := Lib.hid hDj
      clear f0 f1 hsd hDj
      go_wp2_with (fail)
      have SX13 : Hid (∀ w' : World, w'.heap[bn]? = wr.heap[bn]? → w'.heap[pl]? = wr.heap[pl]? → w'.cell? ⟨pl, j * 2, none⟩ = some Sj ∧ w'.cell? ⟨pl, j * 2 + 1, none⟩ = some (.int .i64 Dj.root) ∧ w'.cell? ⟨bn, j, none⟩ = some (.int .i64 xj)) := fun w' h1 h2 =>
        ⟨(World.cell?_of_block h2).trans q0, (World.cell?_of_block h2).trans q1, (World.cell?_of_block h1).trans q2⟩
      have LTn : Hid (bn < wr.heap.size) := Nat.lt_of_lt_of_le LT1.out B1r.out.size
      have LTp : Hid (pl < wr.heap.size) := by have := H1.out.l; rw [Array.getElem?_eq_some_iff] at this; exact Nat.lt_of_lt_of_le this.1 B1r.out.size
      have LTb : Hid (bl + 1 < wr.heap.size) := by have := QH.out; rw [Array.getElem?_eq_some_iff] at this; exact this.1
      have LEb : Hid (w1.heap.size ≤ bl) := by
        show w1.heap.size ≤ bl
        have := BLS.out; have := BW3.out.size; omega
      have NEn : Hid (bn ≠ bl ∧ bn ≠ bl + 1) := by have := LT1.out; have := LEb.out; exact ⟨by omega, by omega⟩
      have NEp : Hid (pl ≠ bl ∧ pl ≠ bl + 1) := by
        have := H1.out.l
        rw [Array.getElem?_eq_some_iff] at this
        have := this.1
        have := LEb.out
        exact ⟨by omega, by omega⟩
      clear q0 q1 q2
      refine wp_region_held_drew (S := fun w' => w'.cell? ⟨pl, j * 2, none⟩ = some Sj ∧ w'.cell? ⟨pl, j * 2 + 1, none⟩ = some (.int .i64 Dj.root) ∧ w'.cell? ⟨bn, j, none⟩ = some (.int .i64 xj)) (by kernel_rfl) (SX13.out _ rfl rfl) (fun hS => ?_)
      refine wpAnyH_take (i := 0) (v := .int .i64 (j : Int)) rfl (by kernel_rfl) (by kernel_rfl) (by kernel_rfl) (fun _ _ _ h => h) (Or.inl ⟨by rfl, ?_⟩) hS ?_
      · intro w hSw
        go_split_ands
        go_simp
      try simp only [Act.put, List.getElem_toArray, List.getElem_cons_zero, List.getElem_cons_succ, List.setIfInBounds_toArray, List.set_cons_zero, List.set_cons_succ]
      refine wpAnyH_take (i := 1) (v := .int .i64 (j : Int)) rfl (by kernel_rfl) (by kernel_rfl) (by kernel_rfl) (fun _ _ _ h => h) (Or.inl ⟨by rfl, ?_⟩) hS ?_
      · intro w hSw
        go_split_ands
        go_simp
      try simp only [Act.put, List.getElem_toArray, List.getElem_cons_zero, List.getElem_cons_succ, List.setIfInBounds_toArray, List.set_cons_zero, List.set_cons_succ]
      refine wpAnyH_take (i := 2) (v := .int .i64 (j : Int)) rfl (by kernel_rfl) (by kernel_rfl) (by kernel_rfl) (fun _ _ _ h => h) (Or.inl ⟨by rfl, ?_⟩) hS ?_
      · intro w hSw
        go_split_ands
        go_simp
      try simp only [Act.put, List.getElem_toArray, List.getElem_cons_zero, List.getElem_cons_succ, List.setIfInBounds_toArray, List.set_cons_zero, List.set_cons_succ]
      refine wpAnyH_take (i := 3) (v := .pointer (some ⟨pl, j * 2, none⟩)) rfl (by kernel_rfl) (by kernel_rfl) (by kernel_rfl) (fun _ _ _ h => h) (Or.inl ⟨by rfl, ?_⟩) hS ?_
      · intro w hSw
        go_split_ands
        go_simp
      try simp only [Act.put, List.getElem_toArray, List.getElem_cons_zero, List.getElem_cons_succ, List.setIfInBounds_toArray, List.set_cons_zero, List.set_cons_succ]
      refine wpAnyH_take (i := 4) (v := .agg #[Sj, .int .i64 Dj.root]) rfl (by kernel_rfl) (by kernel_rfl) (by kernel_rfl) (fun _ _ _ h => h) (Or.inl ⟨by rfl, ?_⟩) hS ?_
      · intro w hSw
        go_split_ands
        go_simp
      try simp only [Act.put, List.getElem_toArray, List.getElem_cons_zero, List.getElem_cons_succ, List.setIfInBounds_toArray, List.set_cons_zero, List.set_cons_succ]
      refine wpAnyH_take (i := 5) (v := .int .i64 (j : Int)) rfl (by kernel_rfl) (by kernel_rfl) (by kernel_rfl) (fun _ _ _ h => h) (Or.inl ⟨by rfl, ?_⟩) hS ?_
      · intro w hSw
        go_split_ands
        go_simp
      try simp only [Act.put, List.getElem_toArray, List.getElem_cons_zero, List.getElem_cons_succ, List.setIfInBounds_toArray, List.set_cons_zero, List.set_cons_succ]
      refine wpAnyH_take (i := 6) (v := .pointer (some ⟨bn, j, none⟩)) rfl (by kernel_rfl) (by kernel_rfl) (by kernel_rfl) (fun _ _ _ h => h) (Or.inl ⟨by rfl, ?_⟩) hS ?_
      · intro w hSw
        go_split_ands
        go_simp
      try simp only [Act.put, List.getElem_toArray, List.getElem_cons_zero, List.getElem_cons_succ, List.setIfInBounds_toArray, List.set_cons_zero, List.set_cons_succ]
      refine wpAnyH_take (i := 7) (v := .int .i64 xj) rfl (by kernel_rfl) (by kernel_rfl) (by kernel_rfl) (fun _ _ _ h => h) (Or.inl ⟨by rfl, ?_⟩) hS ?_
      · intro w hSw
        go_split_ands
        go_simp
      try simp only [Act.put, List.getElem_toArray, List.getElem_cons_zero, List.getElem_cons_succ, List.setIfInBounds_toArray, List.set_cons_zero, List.set_cons_succ]
      refine wpAnyH_take (i := 8) (v := .int .i64 (v : Int)) rfl (by kernel_rfl) (by kernel_rfl) (by kernel_rfl) (fun _ _ _ h => h) (Or.inl ⟨by rfl, ?_⟩) hS ?_
      · intro w hSw
        go_split_ands
        go_simp
      try simp only [Act.put, List.getElem_toArray, List.getElem_cons_zero, List.getElem_cons_succ, List.setIfInBounds_toArray, List.set_cons_zero, List.set_cons_succ]
      refine wpAnyH_ready (rs := [9]) (by kernel_rfl) (by simp) ?_
      refine AllReadyH.cons rfl (fun K hK => ?_) AllReadyH.nil
      try simp only [Act.put, List.getElem_toArray, List.getElem_cons_zero, List.getElem_cons_succ, List.setIfInBounds_toArray, List.set_cons_zero, List.set_cons_succ]
      go_simp
      refine (sides_any wr.drew _ Dj (HDJ.out.below (Below.refl _ _).drew) xj v hxl (by omega)).mono ?_
      rintro e w7 ⟨rfl, hb7⟩
      simp only [HSD.out]
      have K7 : Hid (∀ k, k < wr.heap.size → w7.heap[k]? = wr.heap[k]?) := fun k hk => hb7.block k hk
      have BW7 : Hid (Below wr.heap.size wr w7) := (Below.refl _ wr).drew.trans (hb7.mono (Nat.le_refl _))
      clear hb7
      refine hK.out _ _ (SX13.out _ (K7.out _ LTn.out) (K7.out _ LTp.out)) (fun hS => ?_)
      clear hK K
      try simp only [Act.put, List.getElem_toArray, List.getElem_cons_zero, List.getElem_cons_succ, List.setIfInBounds_toArray, List.set_cons_zero, List.set_cons_succ]
      refine wpAnyH_take (i := 10) (v := .tuple #[.int .i64 lj, .int .i64 hj']) rfl (by kernel_rfl) (by kernel_rfl) (by kernel_rfl) (fun _ _ _ h => h) (Or.inl ⟨by rfl, ?_⟩) hS ?_
      · intro w hSw
        go_split_ands
        go_simp
      try simp only [Act.put, List.getElem_toArray, List.getElem_cons_zero, List.getElem_cons_succ, List.setIfInBounds_toArray, List.set_cons_zero, List.set_cons_succ]
      refine wpAnyH_take (i := 11) (v := .int .i64 lj) rfl (by kernel_rfl) (by kernel_rfl) (by kernel_rfl) (fun _ _ _ h => h) (Or.inl ⟨by rfl, ?_⟩) hS ?_
      · intro w hSw
        go_split_ands
        go_simp
      try simp only [Act.put, List.getElem_toArray, List.getElem_cons_zero, List.getElem_cons_succ, List.setIfInBounds_toArray, List.set_cons_zero, List.set_cons_succ]
      refine wpAnyH_take (i := 12) (v := .int .i64 hj') rfl (by kernel_rfl) (by kernel_rfl) (by kernel_rfl) (fun _ _ _ h => h) (Or.inl ⟨by rfl, ?_⟩) hS ?_
      · intro w hSw
        go_split_ands
        go_simp
      try simp only [Act.put, List.getElem_toArray, List.getElem_cons_zero, List.getElem_cons_succ, List.setIfInBounds_toArray, List.set_cons_zero, List.set_cons_succ]
      refine wpAnyH_take (i := 13) (v := .pointer (some ⟨bl, j, none⟩)) rfl (by kernel_rfl) (by kernel_rfl) (by kernel_rfl) (fun _ _ _ h => h) (Or.inl ⟨by rfl, ?_⟩) hS ?_
      · intro w hSw
        go_split_ands
        go_simp
      try simp only [Act.put, List.getElem_toArray, List.getElem_cons_zero, List.getElem_cons_succ, List.setIfInBounds_toArray, List.set_cons_zero, List.set_cons_succ]
      have QL7 := (K7.out bl (by have := LTb.out; omega)).trans QL.out
      have QH7 := (K7.out (bl + 1) LTb.out).trans QH.out
      obtain ⟨u0, z0⟩ : ∃ u, w7.cell? ⟨bl, j, none⟩ = some u := by
        rw [cell_of_row w7 bl j _ _ _ QL7]
        have hcase : j = 0 ∨ j = 1 ∨ j = 2 := by omega
        rcases hcase with rfl | rfl | rfl <;> exact ⟨_, rfl⟩
      have zf := frozen_box QL7 j
      have QL8 : (w7.setCell ⟨bl, j, none⟩ (.int .i64 lj)).heap[bl]? = some (.cells (fill (j + 1) a0 b0 c0) 114 (0, 0)) := by rw [heap_setCell_same w7 bl j _ _ _ QL7, F0.out]
      obtain ⟨w8, hw8⟩ : ∃ w8, w7.setCell ⟨bl, j, none⟩ (.int .i64 lj) = w8 := ⟨_, rfl⟩
      have K8 : Hid (∀ k, k ≠ bl → w8.heap[k]? = w7.heap[k]?) := fun k hk => by rw [← hw8]; exact heap_setCell_other w7 ⟨bl, j, none⟩ k _ hk
      rw [hw8] at QL8
      have QH8 := (K8.out (bl + 1) (by omega)).trans QH7
      obtain ⟨u1, z1⟩ : ∃ u, w8.cell? ⟨bl + 1, j, none⟩ = some u := by
        rw [cell_of_row w8 (bl + 1) j _ _ _ QH8]
        have hcase : j = 0 ∨ j = 1 ∨ j = 2 := by omega
        rcases hcase with rfl | rfl | rfl <;> exact ⟨_, rfl⟩
      have zg := frozen_box QH8 j
      have QH9 : (w8.setCell ⟨bl + 1, j, none⟩ (.int .i64 hj')).heap[bl + 1]? = some (.cells (fill (j + 1) a1 b1 c1) 114 (0, 0)) := by rw [heap_setCell_same w8 (bl + 1) j _ _ _ QH8, F1.out]
      obtain ⟨w9, hw9⟩ : ∃ w9, w8.setCell ⟨bl + 1, j, none⟩ (.int .i64 hj') = w9 := ⟨_, rfl⟩
      have K9 : Hid (∀ k, k ≠ bl + 1 → w9.heap[k]? = w8.heap[k]?) := fun k hk => by rw [← hw9]; exact heap_setCell_other w8 ⟨bl + 1, j, none⟩ k _ hk
      rw [hw9] at QH9
      have QL9 : Hid (w9.heap[bl]? = some (.cells (fill (j + 1) a0 b0 c0) 114 (0, 0))) := (K9.out bl (by omega)).trans QL8
      have QH9' := Lib.hid QH9
      have HW8 := Lib.hid hw8; have HW9 := Lib.hid hw9
      clear QL7 QH7 QL8 QH8 QH9
      refine wpAnyH_ready (rs := [14]) (by kernel_rfl) (by simp) ?_
      refine AllReadyH.cons rfl (fun K hK => ?_) AllReadyH.nil
      try simp only [Act.put, List.getElem_toArray, List.getElem_cons_zero, List.getElem_cons_succ, List.setIfInBounds_toArray, List.set_cons_zero, List.set_cons_succ]
      go_simp
      refine hK.out _ _ (SX13.out _ ((K8.out _ NEn.out.1).trans (K7.out _ LTn.out)) ((K8.out _ NEp.out.1).trans (K7.out _ LTp.out))) (fun hS => ?_)
      clear hK K
      try simp only [Act.put, List.getElem_toArray, List.getElem_cons_zero, List.getElem_cons_succ, List.setIfInBounds_toArray, List.set_cons_zero, List.set_cons_succ]
      refine wpAnyH_take (i := 15) (v := .pointer (some ⟨bl + 1, j, none⟩)) rfl (by kernel_rfl) (by kernel_rfl) (by kernel_rfl) (fun _ _ _ h => h) (Or.inl ⟨by rfl, ?_⟩) hS ?_
      · intro w hSw
        go_split_ands
        go_simp
      try simp only [Act.put, List.getElem_toArray, List.getElem_cons_zero, List.getElem_cons_succ, List.setIfInBounds_toArray, List.set_cons_zero, List.set_cons_succ]
      refine wpAnyH_ready (rs := [16]) (by kernel_rfl) (by simp) ?_
      refine AllReadyH.cons rfl (fun K hK => ?_) AllReadyH.nil
      try simp only [Act.put, List.getElem_toArray, List.getElem_cons_zero, List.getElem_cons_succ, List.setIfInBounds_toArray, List.set_cons_zero, List.set_cons_succ]
      go_simp
      refine hK.out _ _ (SX13.out _ ((K9.out _ NEn.out.2).trans ((K8.out _ NEn.out.1).trans (K7.out _ LTn.out))) ((K9.out _ NEp.out.2).trans ((K8.out _ NEp.out.1).trans (K7.out _ LTp.out)))) (fun hS => ?_)
      clear hK K
      try simp only [Act.put, List.getElem_toArray, List.getElem_cons_zero, List.getElem_cons_succ, List.setIfInBounds_toArray, List.set_cons_zero, List.set_cons_succ]
      refine wpAnyH_done (by kernel_rfl) ?_ _
      try simp only [Act.put, List.getElem_toArray, List.getElem_cons_zero, List.getElem_cons_succ, List.setIfInBounds_toArray, List.set_cons_zero, List.set_cons_succ]
      clear hS
      have B9 : Hid (Below w4.heap.size w4 w9) := by
        have hbl := BLS.out
        have t1 := ((Step.of_below (BR.out.trans (BW7.out.mono BR.out.size)) NoB).setCell (p := ⟨bl, j, none⟩) (.inr (by show _ ≤ bl; omega)) (.int .i64 lj)).setCell (p := ⟨bl + 1, j, none⟩) (.inr (by show _ ≤ bl + 1; omega)) (.int .i64 hj')
        rw [HW8.out, HW9.out] at t1
        exact t1.below
      go_wp2_with (fail)
      go_roundw
      case rel => exact ⟨j + 1, by omega, by go_num, QL9, QH9', B9⟩
      case measure => simp [intOf]; omega
    · obtain rfl : j = 3 := by omega
      have hCr := H1.out.below B1r.out
      have cA := cell1_of hCr.a
      obtain ⟨l0, l1, l2⟩ := box3 (v := a0) (l := b0) (h := c0) (show wr.heap[bl]? = some (.cells (br3 a0 b0 c0) 114 (0, 0)) from QL.out)
      have HCr := Lib.hid hCr
      clear hCr
      go_wp2_with (fail)
      refine (HL.out wr ns S ms HCr.out HSN.out).mono ?_
      rintro e w10 ⟨r0, x0, S', y0, rfl, hC10, hs10, hr0, hg0, hy0, hsz0⟩
      have NB : Hid (∀ k, w.heap.size ≤ k → ¬ CM mb mk bb S k) := fun k hk h => by have := HW.out.lt.2.1 k h; omega
      have LTb : Hid (bl + 1 < wr.heap.size) := by have := QH.out; rw [Array.getElem?_eq_some_iff] at this; exact this.1
      have LTn : Hid (bn < wr.heap.size) := Nat.lt_of_lt_of_le LT1.out B1r.out.size
      have LEb : Hid (w.heap.size ≤ bl) := by
        show w.heap.size ≤ bl
        have := BLS.out; have := BW3.out.size; have := LT1.out; omega
      have QH10 := (hs10.block (bl + 1) LTb.out (NB.out _ (by have := LEb.out; omega))).trans QH.out
      have QN10 := (hs10.block bn LTn.out (NB.out _ (by omega))).trans ((B1r.out.block bn LT1.out).trans HN.out)
      have NB1 : Hid (∀ k, w.heap.size ≤ k → k < wr.heap.size → ¬ CM mb mk bb S' k) := fun k hk hlt => hs10.away hlt (NB.out k hk)
      have SZ10 : Hid (wr.heap.size ≤ w10.heap.size) := hs10.size
      have HC10 := Lib.hid hC10; have HS10 := Lib.hid hs10; have HR0 := Lib.hid hr0; have HG0 := Lib.hid hg0; have HY0 := Lib.hid hy0; have HZ0 := Lib.hid hsz0; have QH10' := Lib.hid QH10; have QN10' := Lib.hid QN10
      have S16X : Hid (∀ w' : World, ∀ {ns' S' ms'}, CInv w0 w' B fo caps op D0 D1 D2 S0 S1 S2 po pm pl pa pb mb mk bb ns' S' ms' → w'.heap[bl + 1]? = w10.heap[bl + 1]? → w'.cell? ⟨pb, 0, none⟩ = some (.pointer (some ⟨bb, 0, none⟩)) ∧ w'.cell? ⟨pa, 0, none⟩ = some (combFn po pm pl pa pb) ∧ w'.cell? ⟨bl + 1, 0, none⟩ = some (.int .i64 (a1 : Int)) ∧ w'.cell? ⟨bl + 1, 1, none⟩ = some (.int .i64 (b1 : Int)) ∧ w'.cell? ⟨bl + 1, 2, none⟩ = some (.int .i64 (c1 : Int))) := fun w' {ns' S' ms'} hc hh => by
        refine ⟨cell1_of hc.b, cell1_of hc.a, ?_⟩
        exact box3 (v := a1) (l := b1) (h := c1) (show w'.heap[bl + 1]? = some (.cells (br3 a1 b1 c1) 114 (0, 0)) from hh.trans QH10'.out)
      have hC10d : Hid (CInv w0 w10.drew B fo caps op D0 D1 D2 S0 S1 S2 po pm pl pa pb mb mk bb (ns ++ x0) S' (y0 ++ ms)) := hC10.below (Below.refl _ _).drew
      clear hC10 hs10 hr0 hg0 hy0 hsz0 QH10 QN10 cA l0 l1 l2
      go_wp2_with (fail)
      refine wp_region_held_drew (S := fun w' => w'.cell? ⟨pb, 0, none⟩ = some (.pointer (some ⟨bb, 0, none⟩)) ∧ w'.cell? ⟨pa, 0, none⟩ = some (combFn po pm pl pa pb) ∧ w'.cell? ⟨bl + 1, 0, none⟩ = some (.int .i64 (a1 : Int)) ∧ w'.cell? ⟨bl + 1, 1, none⟩ = some (.int .i64 (b1 : Int)) ∧ w'.cell? ⟨bl + 1, 2, none⟩ = some (.int .i64 (c1 : Int))) (by kernel_rfl) (S16X.out _ hC10d.out rfl) (fun hS => ?_)
      refine wpAnyH_take (i := 0) (v := .pointer (some ⟨bb, 0, none⟩)) rfl (by kernel_rfl) (by kernel_rfl) (by kernel_rfl) (fun _ _ _ h => h) (Or.inl ⟨by rfl, ?_⟩) hS ?_
      · intro w hSw
        go_split_ands
        go_simp
      try simp only [Act.put, List.getElem_toArray, List.getElem_cons_zero, List.getElem_cons_succ, List.setIfInBounds_toArray, List.set_cons_zero, List.set_cons_succ]
      refine wpAnyH_take (i := 1) (v := .int .i64 (v : Int)) rfl (by kernel_rfl) (by kernel_rfl) (by kernel_rfl) (fun _ _ _ h => h) (Or.inl ⟨by rfl, ?_⟩) hS ?_
      · intro w hSw
        go_split_ands
        go_simp
      try simp only [Act.put, List.getElem_toArray, List.getElem_cons_zero, List.getElem_cons_succ, List.setIfInBounds_toArray, List.set_cons_zero, List.set_cons_succ]
      refine wpAnyH_take (i := 2) (v := .int .i64 (r0 : Int)) rfl (by kernel_rfl) (by kernel_rfl) (by kernel_rfl) (fun _ _ _ h => h) (Or.inl ⟨by rfl, ?_⟩) hS ?_
      · intro w hSw
        go_split_ands
        go_simp
      try simp only [Act.put, List.getElem_toArray, List.getElem_cons_zero, List.getElem_cons_succ, List.setIfInBounds_toArray, List.set_cons_zero, List.set_cons_succ]
      refine wpAnyH_take (i := 3) (v := combFn po pm pl pa pb) rfl (by kernel_rfl) (by kernel_rfl) (by kernel_rfl) (fun _ _ _ h => h) (Or.inl ⟨by rfl, ?_⟩) hS ?_
      · intro w hSw
        go_split_ands
        go_simp
      try simp only [Act.put, List.getElem_toArray, List.getElem_cons_zero, List.getElem_cons_succ, List.setIfInBounds_toArray, List.set_cons_zero, List.set_cons_succ]
      refine wpAnyH_take (i := 4) (v := .agg #[.int .i64 (a1 : Int), .int .i64 (b1 : Int), .int .i64 (c1 : Int)]) rfl (by kernel_rfl) (by kernel_rfl) (by kernel_rfl) (fun _ _ _ h => h) (Or.inl ⟨by rfl, ?_⟩) hS ?_
      · intro w hSw
        go_split_ands
        go_simp
      try simp only [Act.put, List.getElem_toArray, List.getElem_cons_zero, List.getElem_cons_succ, List.setIfInBounds_toArray, List.set_cons_zero, List.set_cons_succ]
      refine wpAnyH_ready (rs := [5]) (by kernel_rfl) (by simp) ?_
      refine AllReadyH.cons rfl (fun K hK => ?_) AllReadyH.nil
      try simp only [Act.put, List.getElem_toArray, List.getElem_cons_zero, List.getElem_cons_succ, List.setIfInBounds_toArray, List.set_cons_zero, List.set_cons_succ]
      go_simp
      refine (HH.out w10.drew (ns ++ x0) S' (y0 ++ ms) hC10d.out HZ0.out).mono ?_
      rintro e w11 ⟨r1, x1, S'', y1, rfl, hC11, hs11, hr1, hg1, hy1, hsz1⟩
      have QH11 : Hid (w11.heap[bl + 1]? = w10.heap[bl + 1]?) := hs11.block (bl + 1) (Nat.lt_of_lt_of_le LTb.out SZ10.out) (NB1.out _ (by have := LEb.out; omega) LTb.out)
      have QN11 : Hid (w11.heap[bn]? = w10.heap[bn]?) := hs11.block bn (Nat.lt_of_lt_of_le LTn.out SZ10.out) (NB1.out _ (by omega) LTn.out)
      have NB2 : Hid (∀ k, w.heap.size ≤ k → k < wr.heap.size → ¬ CM mb mk bb S'' k) := fun k hk hlt => hs11.away (Nat.lt_of_lt_of_le hlt SZ10.out) (NB1.out k hk hlt)
      have SZ11 : Hid (wr.heap.size ≤ w11.heap.size) := Nat.le_trans SZ10.out hs11.size
      have HC11 := Lib.hid hC11; have HS11 := Lib.hid hs11; have HR1 := Lib.hid hr1; have HG1 := Lib.hid hg1; have HY1 := Lib.hid hy1; have HZ1 := Lib.hid hsz1
      clear hC11 hs11 hr1 hg1 hy1 hsz1
      refine hK.out _ _ (S16X.out _ HC11.out QH11.out) (fun hS => ?_)
      clear hK K
      try simp only [Act.put, List.getElem_toArray, List.getElem_cons_zero, List.getElem_cons_succ, List.setIfInBounds_toArray, List.set_cons_zero, List.set_cons_succ]
      refine wpAnyH_ready (rs := [6]) (by kernel_rfl) (by simp) ?_
      refine AllReadyH.cons rfl (fun K hK => ?_) AllReadyH.nil
      try simp only [Act.put, List.getElem_toArray, List.getElem_cons_zero, List.getElem_cons_succ, List.setIfInBounds_toArray, List.set_cons_zero, List.set_cons_succ]
      go_simp
      have hlen11 : ((ns ++ x0) ++ x1).length ≤ 68820640000 := Nat.le_trans HZ1.out (Nat.le_trans HC11.out.len (room_le hn0 hn1 hn2))
      have hr0' : r0 < ((ns ++ x0) ++ x1).length + 2 := by have := HR0.out; rw [List.length_append]; omega
      have hg0' : Good op (tr D0.nodes a0) (tr D1.nodes b0) (tr D2.nodes c0) (tr ((ns ++ x0) ++ x1) r0) := by rw [tr_append x1 (ns ++ x0) r0 HR0.out]; exact HG0.out
      have hGG := HG.out _ r0 r1 HC11.out.bi.wf hr0' HR1.out hg0' HG1.out
      have HGG := Lib.hid hGG
      refine (branch_any w11 B mk bb _ S'' HC11.out.bi v r0 r1 (by omega) (by omega) (by have := HR1.out; omega) (fun _ => hGG.1) (by omega)).mono ?_
      clear hGG hg0' hr0' hlen11
      rintro e w12 ⟨m, x2, S3, rfl, hB12, hs12, hx2, hm12, ht12⟩
      have hC12 := HC11.out.build hB12 hs12
      have QH12 : Hid (w12.heap[bl + 1]? = w10.heap[bl + 1]?) := (hs12.block (bl + 1) (Nat.lt_of_lt_of_le LTb.out SZ11.out) (fun h => NB2.out _ (by have := LEb.out; omega) LTb.out (.inr h))).trans QH11.out
      have QN12 : Hid (w12.heap[bn]? = some (.cells (br3 a b c) 114 (0, 0))) := ((hs12.block bn (Nat.lt_of_lt_of_le LTn.out SZ11.out) (fun h => NB2.out _ (by omega) LTn.out (.inr h))).trans QN11.out).trans QN10'.out
      have HC12 := Lib.hid hC12; have HS12 := Lib.hid hs12; have HX2 := Lib.hid hx2; have HM12 := Lib.hid hm12; have HT12 := Lib.hid ht12
      clear hC12 hB12 hs12 hx2 hm12 ht12
      refine hK.out _ _ (S16X.out _ HC12.out QH12.out) (fun hS => ?_)
      clear hK K
      try simp only [Act.put, List.getElem_toArray, List.getElem_cons_zero, List.getElem_cons_succ, List.setIfInBounds_toArray, List.set_cons_zero, List.set_cons_succ]
      refine wpAnyH_ready (rs := [7]) (by kernel_rfl) (by simp) ?_
      refine AllReadyH.cons rfl (fun K hK => ?_) AllReadyH.nil
      try simp only [Act.put, List.getElem_toArray, List.getElem_cons_zero, List.getElem_cons_succ, List.setIfInBounds_toArray, List.set_cons_zero, List.set_cons_succ]
      go_simp
      refine hK.out _ _ (S16X.out _ HC12.out QH12.out) (fun hS => ?_)
      clear hK K
      try simp only [Act.put, List.getElem_toArray, List.getElem_cons_zero, List.getElem_cons_succ, List.setIfInBounds_toArray, List.set_cons_zero, List.set_cons_succ]
      refine wpAnyH_done (by kernel_rfl) ?_ _
      try simp only [Act.put, List.getElem_toArray, List.getElem_cons_zero, List.getElem_cons_succ, List.setIfInBounds_toArray, List.set_cons_zero, List.set_cons_succ]
      clear hS
      obtain ⟨n, hn, hmap⟩ := HC12.out.map
      have hnl : n ≤ 68820640000 := Nat.le_trans hn (Nat.le_trans HC12.out.len (room_le hn0 hn1 hn2))
      have hml : m ≤ 68820640000 + 3 := by
        have h1 := HM12.out
        have h2 := Nat.le_trans HZ1.out (Nat.le_trans HC11.out.len (room_le hn0 hn1 hn2))
        have h3 := HX2.out
        rw [List.length_append] at h1
        omega
      obtain ⟨w13, hrun, hmap13, hg13, hsz13⟩ := hmap.store law3 Try.underlying112 Try.underlying3 (by unfold maxLen; omega) val3_inj ((a : Int), (b : Int), (c : Int)) (key3 _ ⟨by simp only; omega, by simp only; omega⟩ ⟨by simp only; omega, by simp only; omega⟩ ⟨by simp only; omega, by simp only; omega⟩) (m : Int) (I64.wf ⟨by omega, by omega⟩)
      simp only [val3] at hrun
      have cM := cell1_of HC12.out.m
      obtain ⟨k0, k1, k2⟩ := box3 QN12.out
      have HMAP := Lib.hid hmap; have HMAP13 := Lib.hid hmap13; have HG13 := Lib.hid hg13; have HN12 := Lib.hid hn
      clear hmap hmap13 hg13 hn
      go_wp2_with (fail)
      go_ret
      have hfresh : memF (y1 ++ (y0 ++ ms)) ((a : Int), (b : Int), (c : Int)) = none := by
        refine memF_append (memF_append HM.out (fun q hq e => ?_)) (fun q hq e => ?_)
        · have h1 := HY0.out q hq
          rw [e] at h1
          simp only [Spot.sum] at h1
          have := HD0.out; omega
        · have h1 := HY1.out q hq
          rw [e] at h1
          simp only [Spot.sum] at h1
          have := HD1.out; omega
      have hgood : Good op (tr D0.nodes a) (tr D1.nodes b) (tr D2.nodes c) (tr (((ns ++ x0) ++ x1) ++ x2) m) := by
        rw [HT12.out]; exact HGG.out.2
      obtain ⟨hK, hsK⟩ := HC12.out.keep HN12.out HMAP13.out HG13.out ha hb hc HM12.out hgood hfresh
      have st : Step (CM mb mk bb S) w (CM mb mk bb S3) w13 := by
        have t1 : Step (CM mb mk bb S) w (CM mb mk bb S') w10 := (Step.of_below (HB.out.trans (B1r.out.mono HB.out.size)) (CM mb mk bb S)).trans HS10.out
        have t2 := t1.drew.trans HS11.out
        have t3 : Step (CM mb mk bb S'') w11 (CM mb mk bb S3) w12 := ⟨HS12.out.os, HS12.out.tape, HS12.out.output, HS12.out.size, fun k hk hm => HS12.out.block k hk (fun h => hm (.inr h)), fun k hk => by
          rcases hk with hk | hk
          · exact .inl (.inl hk)
          · rcases HS12.out.grow k hk with h | h
            · exact .inl (.inr h)
            · exact .inr h⟩
        exact (t2.trans t3).trans hsK
      have ea : ns ++ (x0 ++ x1 ++ x2) = ((ns ++ x0) ++ x1) ++ x2 := by simp [List.append_assoc]
      have eb : ((((a : Int), (b : Int), (c : Int)), (m : Int)) :: (y1 ++ y0)) ++ ms = (((a : Int), (b : Int), (c : Int)), (m : Int)) :: (y1 ++ (y0 ++ ms)) := by simp [List.append_assoc]
      refine ⟨m, x0 ++ x1 ++ x2, S3, (((a : Int), (b : Int), (c : Int)), (m : Int)) :: (y1 ++ y0), rfl, by rw [ea, eb]; exact hK, st, by rw [ea]; exact HM12.out, by rw [ea]; exact hgood, ?_, ?_⟩
      · intro p hp
        rcases List.mem_cons.1 hp with rfl | hp
        · exact Int.le_refl _
        · rcases List.mem_append.1 hp with hp | hp
          · have := HY1.out p hp; have := HD1.out; omega
          · have := HY0.out p hp; have := HD0.out; omega
      · rw [ea, eb]
        have h1 := HZ1.out
        have h2 := HX2.out
        rw [List.length_append, List.length_cons]
        omega

end
end Go.Proofs.Ytohmibmakelclaa
