/-
  The reference's Do, at a write.
  Condition: fewer than 2^30 writes are pending; the numbers to be kept fit into 2^47 bytes.
-/
import Derived.Test.YthnolhcknhhipaaDkRefK
namespace Go.Proofs.Ythnolhcknhhipaa
set_option linter.unusedVariables false
set_option linter.unusedSimpArgs false
open Go.RowKit

/-- An operation as its five cells. -/
abbrev op5 (x : OpD) (K : Value) : Array Value := #[.int .u8 x.kind, .int .i64 x.pos, .int .u8 x.byte, .int .i64 x.long, K]

theorem op_cells {w0 : World} {bx : Nat} {x : OpD} {K : Value} (h : w0.heap[bx]? = some (.cells (op5 x K) 40 (0, 0))) :
    w0.cell? ⟨bx, 0, none⟩ = some (.int .u8 x.kind) ∧ w0.cell? ⟨bx, 1, none⟩ = some (.int .i64 x.pos) ∧ w0.cell? ⟨bx, 2, none⟩ = some (.int .u8 x.byte) ∧ w0.cell? ⟨bx, 3, none⟩ = some (.int .i64 x.long) ∧ w0.cell? ⟨bx, 4, none⟩ = some K :=
  ⟨by rw [cell_of_row w0 bx 0 _ _ _ h]; rfl, by rw [cell_of_row w0 bx 1 _ _ _ h]; rfl, by rw [cell_of_row w0 bx 2 _ _ _ h]; rfl, by rw [cell_of_row w0 bx 3 _ _ _ h]; rfl, by rw [cell_of_row w0 bx 4 _ _ _ h]; rfl⟩

theorem do_entry (w : World) (C W K : Value) (d : Bool) (f : Int) (x : OpD) (KX : Value) :
    ∃ w0 bx, ((w.alloc (.cells (st5 C W d f K) 48)).alloc (.cells (op5 x KX) 40)).alloc (.cells st0 48) = w0 ∧ w.heap.size = bx ∧ w0.heap.size = bx + 3 ∧
      w0.heap[bx]? = some (.cells (st5 C W d f K) 48 (0, 0)) ∧ w0.heap[bx + 1]? = some (.cells (op5 x KX) 40 (0, 0)) ∧ w0.heap[bx + 2]? = some (.cells st0 48 (0, 0)) ∧ Below w.heap.size w w0 := by
  refine ⟨_, _, rfl, rfl, by simp, ?_, ?_, ?_, ?_⟩
  · rw [Below.heap_alloc _ _ _ (by simp; omega), Below.heap_alloc _ _ _ (by simp)]; exact heap_alloc_new w _
  · rw [Below.heap_alloc _ _ _ (by simp)]
    have := heap_alloc_new (w.alloc (.cells (st5 C W d f K) 48)) (.cells (op5 x KX) 40)
    rw [show (w.alloc (.cells (st5 C W d f K) 48)).heap.size = w.heap.size + 1 by simp] at this
    exact this
  · have := heap_alloc_new ((w.alloc (.cells (st5 C W d f K) 48)).alloc (.cells (op5 x KX) 40)) (.cells st0 48)
    rw [show ((w.alloc (.cells (st5 C W d f K) 48)).alloc (.cells (op5 x KX) 40)).heap.size = w.heap.size + 2 by simp] at this
    exact this
  · exact (((Below.refl _ _).alloc (Nat.le_refl _) _).alloc (by simp) _).alloc (by simp; omega) _

theorem keep5 (w : World) (b : Nat) (c0 c1 c2 c3 c4 : Value) (w0 : World) (h : ∀ k, k < b → w.heap[k]? = w0.heap[k]?) :
    ∀ k, k < b → (((((w.setCell ⟨b, 0, none⟩ c0).setCell ⟨b, 1, none⟩ c1).setCell ⟨b, 2, none⟩ c2).setCell ⟨b, 3, none⟩ c3).setCell ⟨b, 4, none⟩ c4).heap[k]? = w0.heap[k]? := by
  intro k hk
  have hne : k ≠ b := by omega
  rw [heap_setCell_other _ _ k _ hne, heap_setCell_other _ _ k _ hne, heap_setCell_other _ _ k _ hne, heap_setCell_other _ _ k _ hne, heap_setCell_other _ _ k _ hne]
  exact h k hk

set_option maxRecDepth 100000 in
set_option maxHeartbeats 400000 in
theorem refdo_write (w : World) (M : Nat → Prop) (hM : ∀ b, M b → b < w.heap.size) (n : Nat) (v : Value) (s : DS) (h : RefAt w M n v s) (ok : s.Ok n) (hwr : s.wr.length < 1073741824) (x : OpD) (xok : x.Ok) (KX : Value) (hK : Ints w NoB KX x.kept) (hxk : x.kept.length * 8 ≤ 140737488355328) (hn : x.kind % 10 < 4) :
    Calls Try.prog 24 #[v, x.val KX] w fun e w' => ∃ r, e = .returned (.tuple #[r, .int .i64 (s.op n x).1]) ∧ RefAt w' M n r (s.op n x).2 ∧ Below w.heap.size w w' := by
  obtain ⟨ca, cc, wa, wc, ka, kc, rfl⟩ := h.shapes
  obtain ⟨qa, qc, rfl⟩ : ∃ a c, KX = .slice a x.kept.length c := by obtain ⟨a, c, hv, -⟩ := hK; exact ⟨a, c, hv⟩
  obtain ⟨w0, bx, hw0q, hbx, hsz, hB, hBo, hB1, hb0⟩ := do_entry w (.slice ca n cc) (.slice wa s.wr.length wc) (.slice ka s.kept.length kc) s.down s.fuse x (.slice qa x.kept.length qc)
  have HH := Lib.hid h
  have HR : Hid (RefAt w0 (Keep M (bx + 2)) n (.agg #[.slice ca n cc, .slice wa s.wr.length wc, .bool s.down, .int .i64 s.fuse, .slice ka s.kept.length kc]) s) := h.keep hb0 (by omega)
  have HM : Hid (∀ b, Keep M (bx + 2) b → b < w0.heap.size) := Keep.lt (fun k hk => Nat.lt_of_lt_of_le (hM k hk) hb0.size) (by omega)
  have HK : Hid (Ints w0 NoB (.slice qa x.kept.length qc) x.kept) := hK.step (Step.of_below hb0 NoB)
  obtain ⟨x0, x1, x2, x3, x4⟩ := box_cells hB
  obtain ⟨u0, u1, u2, u3, u4⟩ := op_cells hBo
  have B0 := Lib.hid hb0; have OK := Lib.hid ok; have R0 := Lib.hid hB; have R1' := Lib.hid hBo; have R2' := Lib.hid hB1; have BX := Lib.hid hbx; have HWR := Lib.hid hwr; have SZ := Lib.hid hsz; have XOK := Lib.hid xok; have HXK := Lib.hid hxk
  have HMM := Lib.hid hM
  have HKw := Lib.hid hK
  have HN := Lib.hid hn
  have hk0 := xok.k0
  have hk1 := xok.k1
  clear hn h hB hBo hb0 ok hB1 hwr hM hK hsz xok hxk
  unfold DS.op
  obtain ⟨m, hm⟩ : ∃ m, x.kind % 10 = m := ⟨_, rfl⟩
  have hm0 : 0 ≤ m := by omega
  have hm9 : m ≤ 9 := by omega
  rw [hm]
  have hn := HN.out
  have n4 : ¬ m = 4 := by omega
  have n5 : ¬ m = 5 := by omega
  have n6 : ¬ m = 6 := by omega
  have n7 : ¬ m = 7 := by omega
  have n8 : ¬ m = 8 := by omega
  have n9 : ¬ m = 9 := by omega
  rw [if_neg n4]
  rw [if_neg n5]
  rw [if_neg n6]
  rw [if_neg n7]
  rw [if_neg n8]
  rw [if_neg n9]
  have e4 : (x.kind % 10 == 4) = false := by rw [hm]; simpa using n4
  have e5 : (x.kind % 10 == 5) = false := by rw [hm]; simpa using n5
  have e6 : (x.kind % 10 == 6) = false := by rw [hm]; simpa using n6
  have e7 : (x.kind % 10 == 7) = false := by rw [hm]; simpa using n7
  have e8 : (x.kind % 10 == 8) = false := by rw [hm]; simpa using n8
  have e9 : (x.kind % 10 == 9) = false := by rw [hm]; simpa using n9
  clear hm hm0 hm9 n4 n5 n6 n7 n8 n9
  have HRd : Hid (RefAt w0.drew (Keep M (bx + 2)) n (.agg #[.slice ca n cc, .slice wa s.wr.length wc, .bool s.down, .int .i64 s.fuse, .slice ka s.kept.length kc]) s) := HR.out.step (Step.drew (Step.refl _ w0))
  have RX : Hid (∀ w' : World, (∀ k, k < bx + 2 → w'.heap[k]? = w0.heap[k]?) → w'.cell? ⟨bx, 0, none⟩ = some (.slice ca n cc) ∧ w'.cell? ⟨bx, 1, none⟩ = some (.slice wa s.wr.length wc) ∧ w'.cell? ⟨bx, 2, none⟩ = some (.bool s.down) ∧ w'.cell? ⟨bx, 3, none⟩ = some (.int .i64 s.fuse) ∧ w'.cell? ⟨bx, 4, none⟩ = some (.slice ka s.kept.length kc) ∧ w'.cell? ⟨bx + 1, 0, none⟩ = some (.int .u8 x.kind) ∧ w'.cell? ⟨bx + 1, 1, none⟩ = some (.int .i64 x.pos) ∧ w'.cell? ⟨bx + 1, 2, none⟩ = some (.int .u8 x.byte) ∧ w'.cell? ⟨bx + 1, 3, none⟩ = some (.int .i64 x.long) ∧ w'.cell? ⟨bx + 1, 4, none⟩ = some (.slice qa x.kept.length qc)) := fun w' hb => by
    obtain ⟨a0, a1, a2, a3, a4⟩ := box_cells ((hb bx (by omega)).trans R0.out)
    obtain ⟨b0, b1, b2, b3, b4⟩ := op_cells ((hb (bx + 1) (by omega)).trans R1'.out)
    exact ⟨a0, a1, a2, a3, a4, b0, b1, b2, b3, b4⟩
  have hs0 := SZ.out
  have p0 := XOK.out.p0
  have p1 := XOK.out.p1
  go_enter Try.func24, Try.ntmps24
  go_wp2_with (fail)
  clear x0 x1 x2 x3 x4 u0 u1 u2 u3 u4 hw0q
  refine wp_region_held_drew (S := fun w' => w'.cell? ⟨bx, 0, none⟩ = some (.slice ca n cc) ∧ w'.cell? ⟨bx, 1, none⟩ = some (.slice wa s.wr.length wc) ∧ w'.cell? ⟨bx, 2, none⟩ = some (.bool s.down) ∧ w'.cell? ⟨bx, 3, none⟩ = some (.int .i64 s.fuse) ∧ w'.cell? ⟨bx, 4, none⟩ = some (.slice ka s.kept.length kc) ∧ w'.cell? ⟨bx + 1, 0, none⟩ = some (.int .u8 x.kind) ∧ w'.cell? ⟨bx + 1, 1, none⟩ = some (.int .i64 x.pos) ∧ w'.cell? ⟨bx + 1, 2, none⟩ = some (.int .u8 x.byte) ∧ w'.cell? ⟨bx + 1, 3, none⟩ = some (.int .i64 x.long) ∧ w'.cell? ⟨bx + 1, 4, none⟩ = some (.slice qa x.kept.length qc)) (by kernel_rfl) (RX.out _ (fun k hk => rfl)) (fun hS => ?_)
  refine wpAnyH_take (i := 0) (v := .agg #[.slice ca n cc, .slice wa s.wr.length wc, .bool s.down, .int .i64 s.fuse, .slice ka s.kept.length kc]) rfl (by kernel_rfl) (by kernel_rfl) (by kernel_rfl) (fun _ _ _ h => h) (Or.inl ⟨by rfl, ?_⟩) hS ?_
  · intro w hSw
    go_split_ands
    go_simp
  try simp only [Act.put, List.getElem_toArray, List.getElem_cons_zero, List.getElem_cons_succ, List.setIfInBounds_toArray, List.set_cons_zero, List.set_cons_succ]
  refine wpAnyH_take (i := 1) (v := .pointer (some ⟨bx + 1, 1, none⟩)) rfl (by kernel_rfl) (by kernel_rfl) (by kernel_rfl) (fun _ _ _ h => h) (Or.inl ⟨by rfl, ?_⟩) hS ?_
  · intro w hSw
    go_split_ands
    go_simp
  try simp only [Act.put, List.getElem_toArray, List.getElem_cons_zero, List.getElem_cons_succ, List.setIfInBounds_toArray, List.set_cons_zero, List.set_cons_succ]
  refine wpAnyH_take (i := 2) (v := .int .i64 x.pos) rfl (by kernel_rfl) (by kernel_rfl) (by kernel_rfl) (fun _ _ _ h => h) (Or.inl ⟨by rfl, ?_⟩) hS ?_
  · intro w hSw
    go_split_ands
    go_simp
  try simp only [Act.put, List.getElem_toArray, List.getElem_cons_zero, List.getElem_cons_succ, List.setIfInBounds_toArray, List.set_cons_zero, List.set_cons_succ]
  refine wpAnyH_take (i := 3) (v := x.val (.slice qa x.kept.length qc)) rfl (by kernel_rfl) (by kernel_rfl) (by kernel_rfl) (fun _ _ _ h => h) (Or.inl ⟨by rfl, ?_⟩) hS ?_
  · intro w hSw
    go_split_ands
    go_simp
  try simp only [Act.put, List.getElem_toArray, List.getElem_cons_zero, List.getElem_cons_succ, List.setIfInBounds_toArray, List.set_cons_zero, List.set_cons_succ]
  refine wpAnyH_ready (rs := [4]) (by kernel_rfl) (by simp) ?_
  refine AllReadyH.cons rfl (fun K hK => ?_) AllReadyH.nil
  try simp only [Act.put, List.getElem_toArray, List.getElem_cons_zero, List.getElem_cons_succ, List.setIfInBounds_toArray, List.set_cons_zero, List.set_cons_succ]
  go_simp
  refine (data_any w0.drew x XOK.out _).mono ?_
  rintro e w1 ⟨bb, rfl, hbb, hb1, hbl⟩
  have KX1 : Hid (∀ k, k < bx + 2 → w1.heap[k]? = w0.heap[k]?) := fun k hk => hb1.block k (by show k < w0.heap.size; omega)
  have HR1 := Lib.hid (HRd.out.step (Step.of_below hb1 _))
  have HB1 := Lib.hid hb1; have HBB := Lib.hid hbb
  clear hb1 hbb hbl
  refine hK.out _ _ (RX.out _ KX1.out) (fun hS => ?_)
  clear hK K
  try simp only [Act.put, List.getElem_toArray, List.getElem_cons_zero, List.getElem_cons_succ, List.setIfInBounds_toArray, List.set_cons_zero, List.set_cons_succ]
  refine wpAnyH_ready (rs := [5]) (by kernel_rfl) (by simp) ?_
  refine AllReadyH.cons rfl (fun K hK => ?_) AllReadyH.nil
  try simp only [Act.put, List.getElem_toArray, List.getElem_cons_zero, List.getElem_cons_succ, List.setIfInBounds_toArray, List.set_cons_zero, List.set_cons_succ]
  go_simp
  refine (refwrite_any w1 (Keep M (bx + 2)) (fun b hb => Nat.lt_of_lt_of_le (HM.out b hb) HB1.out.size) n _ _ s HR1.out OK.out HWR.out x.pos p0 p1 x.data (by have h1 := HBB.out.bytes (M := NoB) (fun h => h) (by rw [x.data_length]; have := x.dlen_le; unfold maxLen; omega); rw [x.data_length] at h1; exact h1)).mono ?_
  rintro e w2 ⟨r, rfl, hr, hb2⟩
  obtain ⟨cd, hcd⟩ : ∃ cd, (s.writeAny n x.pos x.data).1 = cd := ⟨_, rfl⟩
  obtain ⟨t, ht⟩ : ∃ t, (s.writeAny n x.pos x.data).2 = t := ⟨_, rfl⟩
  rw [ht] at hr
  try rw [hcd]
  have HT := Lib.hid ht; have HCD := Lib.hid hcd
  clear ht hcd
  obtain ⟨da, dc, ea, ec, fa, fc, rfl⟩ := hr.shapes
  have KX2 : Hid (∀ k, k < bx + 2 → w2.heap[k]? = w0.heap[k]?) := fun k hk => (hb2.block k (by have := HB1.out.size; have h2 : w0.drew.heap.size = w0.heap.size := rfl; omega)).trans (KX1.out k hk)
  have HR2 := Lib.hid hr
  have RR2 := heap_below hb2 (heap_below HB1.out R2'.out)
  obtain ⟨y0, y1, y2, y3, y4⟩ := box_cells RR2
  have z := box_frozen RR2
  have KX3 := Lib.hid (keep5 w2 (bx + 2) (.slice da n dc) (.slice ea t.wr.length ec) (.bool t.down) (.int .i64 t.fuse) (.slice fa t.kept.length fc) w0 KX2.out)
  have HB2 := Lib.hid hb2; have RRH := Lib.hid RR2
  clear hb2 hr RR2
  refine hK.out _ _ (RX.out _ KX2.out) (fun hS => ?_)
  clear hK K
  try simp only [Act.put, List.getElem_toArray, List.getElem_cons_zero, List.getElem_cons_succ, List.setIfInBounds_toArray, List.set_cons_zero, List.set_cons_succ]
  refine wpAnyH_take (i := 6) (v := .agg #[.slice da n dc, .slice ea t.wr.length ec, .bool t.down, .int .i64 t.fuse, .slice fa t.kept.length fc]) rfl (by kernel_rfl) (by kernel_rfl) (by kernel_rfl) (fun _ _ _ h => h) (Or.inl ⟨by rfl, ?_⟩) hS ?_
  · intro w hSw
    go_split_ands
    go_simp
  try simp only [Act.put, List.getElem_toArray, List.getElem_cons_zero, List.getElem_cons_succ, List.setIfInBounds_toArray, List.set_cons_zero, List.set_cons_succ]
  refine wpAnyH_take (i := 7) (v := .int .i64 cd) rfl (by kernel_rfl) (by kernel_rfl) (by kernel_rfl) (fun _ _ _ h => h) (Or.inl ⟨by rfl, ?_⟩) hS ?_
  · intro w hSw
    go_split_ands
    go_simp
  try simp only [Act.put, List.getElem_toArray, List.getElem_cons_zero, List.getElem_cons_succ, List.setIfInBounds_toArray, List.set_cons_zero, List.set_cons_succ]
  refine wpAnyH_ready (rs := [8]) (by kernel_rfl) (by simp) ?_
  refine AllReadyH.cons rfl (fun K hK => ?_) AllReadyH.nil
  try simp only [Act.put, List.getElem_toArray, List.getElem_cons_zero, List.getElem_cons_succ, List.setIfInBounds_toArray, List.set_cons_zero, List.set_cons_succ]
  go_simp
  refine hK.out _ _ (RX.out _ KX3.out) (fun hS => ?_)
  clear hK K
  try simp only [Act.put, List.getElem_toArray, List.getElem_cons_zero, List.getElem_cons_succ, List.setIfInBounds_toArray, List.set_cons_zero, List.set_cons_succ]
  refine wpAnyH_ready (rs := [9]) (by kernel_rfl) (by simp) ?_
  refine AllReadyH.cons rfl (fun K hK => ?_) AllReadyH.nil
  try simp only [Act.put, List.getElem_toArray, List.getElem_cons_zero, List.getElem_cons_succ, List.setIfInBounds_toArray, List.set_cons_zero, List.set_cons_succ]
  go_simp
  refine hK.out _ _ (RX.out _ KX3.out) (fun hS => ?_)
  clear hK K
  refine wpAnyH_done (by kernel_rfl) ?_ _
  try simp only [Act.put, List.getElem_toArray, List.getElem_cons_zero, List.getElem_cons_succ, List.setIfInBounds_toArray, List.set_cons_zero, List.set_cons_succ]
  go_wp2_with (fail)
  obtain ⟨w9, hw9, P9, Q9, S9⟩ := put5 (w0 := w) (c0 := .slice da n dc) (c1 := .slice ea t.wr.length ec) (c2 := .bool t.down) (c3 := .int .i64 t.fuse) (c4 := .slice fa t.kept.length fc) RRH.out (B0.out.trans ((Below.drew (Below.refl _ w0) |>.trans (HB1.out.mono (Nat.le_refl _)) |>.trans (HB2.out.mono HB1.out.size)).mono B0.out.size)) (by have := BX.out; omega)
  rw [hw9]
  obtain ⟨z0, z1, z2, z3, z4⟩ := box_cells P9
  clear y0 y1 y2 y3 y4 z hw9
  refine bodyPost_ret (v := .tuple #[.agg #[.slice da n dc, .slice ea t.wr.length ec, .bool t.down, .int .i64 t.fuse, .slice fa t.kept.length fc], .int .i64 cd]) (by simp [results, Try.results24, go_sem, z0, z1, z2, z3, z4]) rfl ?_
  rw [HT.out, HCD.out]
  exact ⟨_, rfl, HR2.out.result S9, Q9⟩

end Go.Proofs.Ythnolhcknhhipaa
