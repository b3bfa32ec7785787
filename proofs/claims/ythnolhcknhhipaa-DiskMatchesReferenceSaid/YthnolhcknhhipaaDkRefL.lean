/-
  The reference's Do.
  Condition: fewer than 2^30 writes are pending; the numbers to be kept fit into 2^47 bytes.
-/
import Derived.Test.YthnolhcknhhipaaDkRefL1
namespace Go.Proofs.Ythnolhcknhhipaa
set_option linter.unusedVariables false
set_option linter.unusedSimpArgs false
open Go.RowKit

set_option maxRecDepth 100000 in
set_option maxHeartbeats 800000 in
theorem refdo_any (w : World) (M : Nat → Prop) (hM : ∀ b, M b → b < w.heap.size) (n : Nat) (v : Value) (s : DS) (h : RefAt w M n v s) (ok : s.Ok n) (hwr : s.wr.length < 1073741824) (x : OpD) (xok : x.Ok) (KX : Value) (hK : Ints w NoB KX x.kept) (hxk : x.kept.length * 8 ≤ 140737488355328) :
    Calls Try.prog 24 #[v, x.val KX] w fun e w' => ∃ r, e = .returned (.tuple #[r, .int .i64 (s.op n x).1]) ∧ RefAt w' M n r (s.op n x).2 ∧ Below w.heap.size w w' := by
  obtain ⟨ca, cc, wa, wc, ka, kc, rfl⟩ := h.shapes
  obtain ⟨qa, qc, rfl⟩ : ∃ a c, KX = .slice a x.kept.length c := by obtain ⟨a, c, hv, -⟩ := hK; exact ⟨a, c, hv⟩
  obtain ⟨w0, bx, hw0q, hbx, hsz, hB, hBo, hB1, hb0⟩ := do_entry w (.slice ca n cc) (.slice wa s.wr.length wc) (.slice ka s.kept.length kc) s.down s.fuse x (.slice qa x.kept.length qc)
  have HH := Lib.hid h
  have HR : Hid (RefAt w0 (Keep M (bx + 2)) n (.agg #[.slice ca n cc, .slice wa s.wr.length wc, .bool s.down, .int .i64 s.fuse, .slice ka s.kept.length kc]) s) := h.keep hb0 (by omega)
  have HM : Hid (∀ b, Keep M (bx + 2) b → b < w0.heap.size) := Keep.lt (fun k hk => Nat.lt_of_lt_of_le (hM k hk) hb0.size) (by omega)
  have HK : Hid (Ints w0 NoB (.slice qa x.kept.length qc) x.kept) := hK.step (Step.of_below hb0 NoB)
  obtain ⟨x0, x1, x2, x3, x4⟩ := box_cells hB
  obtain ⟨u0, u1, u2, u3, u4⟩ := op_cells hBo
  have B0 := Lib.hid hb0; have OK := Lib.hid ok; have R0 := Lib.hid hB; have R1' := Lib.hid hBo; have R2' := Lib.hid hB1; have BX := Lib.hid hbx; have HWR := Lib.hid hwr; have SZ := Lib.hid hsz; have XOK := Lib.hid xok; have HXK := Lib.hid hxk
  have HMM := Lib.hid hM
  have HKw := Lib.hid hK
  have hk0 := xok.k0
  have hk1 := xok.k1
  clear h hB hBo hb0 ok hB1 hwr hM hK hsz xok hxk
  by_cases hwr0 : x.kind % 10 < 4
  · exact refdo_write w M HMM.out n _ s HH.out OK.out HWR.out x XOK.out _ HKw.out HXK.out hwr0
  unfold DS.op
  obtain ⟨m, hm⟩ : ∃ m, x.kind % 10 = m := ⟨_, rfl⟩
  have hm0 : 0 ≤ m := by omega
  have hm9 : m ≤ 9 := by omega
  rw [hm]
  by_cases n4 : m = 4
  · rw [n4] at hm
    have e4 : (x.kind % 10 == 4) = true := by rw [hm]; rfl
    rw [if_pos n4]
    clear hm hm0 hm9
    go_enter Try.func24, Try.ntmps24
    go_wp2_with (fail)
    refine (refflush_any w0 _ HM.out n _ s HR.out OK.out HWR.out).mono ?_
    rintro e w2 ⟨r, rfl, hr, hb2⟩
    obtain ⟨t, ht⟩ : ∃ t, s.flush.2 = t := ⟨_, rfl⟩
    rw [ht] at hr
    have HT := Lib.hid ht; clear ht
    obtain ⟨da, dc, ea, ec, fa, fc, rfl⟩ := hr.shapes
    have HR2 := Lib.hid hr
    have B2 := Lib.hid (B0.out.trans (hb2.mono B0.out.size))
    have R2 := heap_below hb2 R2'.out
    have RR := Lib.hid R2
    obtain ⟨y0, y1, y2, y3, y4⟩ := box_cells R2
    have z := box_frozen R2
    clear hr hb2 R2 x0 x1 x2 x3 x4 u0 u1 u2 u3 u4
    go_wp2_with (fail)
    obtain ⟨w9, hw9, P9, Q9, S9⟩ := put5 (w0 := w) (c0 := .slice da n dc) (c1 := .slice ea t.wr.length ec) (c2 := .bool t.down) (c3 := .int .i64 t.fuse) (c4 := .slice fa t.kept.length fc) RR.out B2.out (by have := BX.out; omega)
    rw [hw9]
    obtain ⟨z0, z1, z2, z3, z4⟩ := box_cells P9
    clear y0 y1 y2 y3 y4 z hw9
    refine bodyPost_ret (v := .tuple #[.agg #[.slice da n dc, .slice ea t.wr.length ec, .bool t.down, .int .i64 t.fuse, .slice fa t.kept.length fc], .int .i64 s.flush.1]) (by simp [results, Try.results24, go_sem, z0, z1, z2, z3, z4]) rfl ?_
    rw [HT.out]
    exact ⟨_, rfl, HR2.out.result S9, Q9⟩
  by_cases n5 : m = 5
  · rw [n5] at hm
    have e4 : (x.kind % 10 == 4) = false := by rw [hm]; rfl
    have e5 : (x.kind % 10 == 5) = true := by rw [hm]; rfl
    rw [if_neg n4]
    rw [if_pos n5]
    clear hm hm0 hm9
    go_enter Try.func24, Try.ntmps24
    go_wp2_with (fail)
    refine (refcrash_any w0 _ HM.out n _ s HR.out OK.out _ x.kept HK.out HWR.out).mono ?_
    rintro e w2 ⟨r, rfl, hr, hb2⟩
    obtain ⟨t, ht⟩ : ∃ t, s.crash x.kept = t := ⟨_, rfl⟩
    rw [ht] at hr
    have HT := Lib.hid ht; clear ht
    obtain ⟨da, dc, ea, ec, fa, fc, rfl⟩ := hr.shapes
    have HR2 := Lib.hid hr
    have B2 := Lib.hid (B0.out.trans (hb2.mono B0.out.size))
    have R2 := heap_below hb2 R2'.out
    have RR := Lib.hid R2
    obtain ⟨y0, y1, y2, y3, y4⟩ := box_cells R2
    have z := box_frozen R2
    clear hr hb2 R2 x0 x1 x2 x3 x4 u0 u1 u2 u3 u4
    go_wp2_with (fail)
    obtain ⟨w9, hw9, P9, Q9, S9⟩ := put5 (w0 := w) (c0 := .slice da n dc) (c1 := .slice ea t.wr.length ec) (c2 := .bool t.down) (c3 := .int .i64 t.fuse) (c4 := .slice fa t.kept.length fc) RR.out B2.out (by have := BX.out; omega)
    rw [hw9]
    obtain ⟨z0, z1, z2, z3, z4⟩ := box_cells P9
    clear y0 y1 y2 y3 y4 z hw9
    refine bodyPost_ret (v := .tuple #[.agg #[.slice da n dc, .slice ea t.wr.length ec, .bool t.down, .int .i64 t.fuse, .slice fa t.kept.length fc], .int .i64 0]) (by simp [results, Try.results24, go_sem, z0, z1, z2, z3, z4]) rfl ?_
    show ∃ r, _ ∧ RefAt w9 M n r (s.crash x.kept) ∧ _
    rw [HT.out]
    exact ⟨_, rfl, HR2.out.result S9, Q9⟩
  by_cases n6 : m = 6
  · rw [n6] at hm
    have e4 : (x.kind % 10 == 4) = false := by rw [hm]; rfl
    have e5 : (x.kind % 10 == 5) = false := by rw [hm]; rfl
    have e6 : (x.kind % 10 == 6) = true := by rw [hm]; rfl
    rw [if_neg n4]
    rw [if_neg n5]
    rw [if_pos n6]
    clear hm hm0 hm9
    obtain ⟨y0, y1, y2, y3, y4⟩ := box_cells R2'.out
    have z := box_frozen R2'.out
    have z' := box_frozen R0.out
    go_enter Try.func24, Try.ntmps24
    go_wp2_with (fail)
    obtain ⟨w1, hw1⟩ : ∃ w1, w0.setCell ⟨bx, 2, none⟩ (.bool false) = w1 := ⟨_, rfl⟩
    rw [hw1]
    have B1 : Below w.heap.size w w1 := by rw [← hw1]; exact B0.out.setCell (Nat.le_of_eq BX.out) _
    have RR : w1.heap[bx + 2]? = some (.cells st0 48 (0, 0)) := by rw [← hw1, heap_setCell_other w0 ⟨bx, 2, none⟩ (bx + 2) _ (by simp)]; exact R2'.out
    clear hw1
    obtain ⟨w9, hw9, P9, Q9, S9⟩ := put5 (w0 := w) (c0 := .slice ca n cc) (c1 := .slice wa s.wr.length wc) (c2 := .bool false) (c3 := .int .i64 s.fuse) (c4 := .slice ka s.kept.length kc) RR B1 (by have := BX.out; omega)
    rw [hw9]
    obtain ⟨z0, z1, z2, z3, z4⟩ := box_cells P9
    clear x0 x1 x2 x3 x4 u0 u1 u2 u3 u4 y0 y1 y2 y3 y4 z z' hw9
    refine bodyPost_ret (v := .tuple #[.agg #[.slice ca n cc, .slice wa s.wr.length wc, .bool false, .int .i64 s.fuse, .slice ka s.kept.length kc], .int .i64 0]) (by simp [results, Try.results24, go_sem, z0, z1, z2, z3, z4]) rfl ?_
    have k := HH.out.ints
    have hs := Step.of_below Q9 M
    exact ⟨_, rfl, ⟨_, _, _, rfl, k.1.step hs, k.2.1.step hs, k.2.2.step hs⟩, by first | exact Q9 | (rw [← BX.out]; exact Q9)⟩
  by_cases n7 : m = 7
  · rw [n7] at hm
    have e4 : (x.kind % 10 == 4) = false := by rw [hm]; rfl
    have e5 : (x.kind % 10 == 5) = false := by rw [hm]; rfl
    have e6 : (x.kind % 10 == 6) = false := by rw [hm]; rfl
    have e7 : (x.kind % 10 == 7) = true := by rw [hm]; rfl
    rw [if_neg n4]
    rw [if_neg n5]
    rw [if_neg n6]
    rw [if_pos n7]
    clear hm hm0 hm9
    obtain ⟨y0, y1, y2, y3, y4⟩ := box_cells R2'.out
    have z := box_frozen R2'.out
    have z' := box_frozen R0.out
    obtain ⟨i0, hi, hz0, hz1, hz2⟩ := info_parts infoint
    have p0 := XOK.out.p0
    have p1 := XOK.out.p1
    by_cases h0 : 0 ≤ x.pos
    · have HQ : max x.pos 0 = x.pos := by omega
      rw [HQ]; clear HQ
      obtain ⟨w1, hw1⟩ : ∃ w1, w0.setCell ⟨bx, 3, none⟩ (.int .i64 x.pos) = w1 := ⟨_, rfl⟩
      have hz1w : w1.heap.size = bx + 3 := by rw [← hw1]; simpa [World.setCell] using SZ.out
      have B1 : Hid (Below w.heap.size w w1) := by show Below _ _ _; rw [← hw1]; exact B0.out.setCell (Nat.le_of_eq BX.out) _
      have G0 : Hid (w1.heap[bx]? = some (.cells (st5 (.slice ca n cc) (.slice wa s.wr.length wc) s.down x.pos (.slice ka s.kept.length kc)) 48 (0, 0))) := by show _ = _; rw [← hw1, heap_setCell_same w0 bx 3 _ _ _ R0.out]; rfl
      have G1 : Hid (w1.heap[bx + 1]? = some (.cells (op5 x (.slice qa x.kept.length qc)) 40 (0, 0))) := by show _ = _; rw [← hw1, heap_setCell_other w0 ⟨bx, 3, none⟩ (bx + 1) _ (by simp)]; exact R1'.out
      have G2 : Hid (w1.heap[bx + 2]? = some (.cells st0 48 (0, 0))) := by show _ = _; rw [← hw1, heap_setCell_other w0 ⟨bx, 3, none⟩ (bx + 2) _ (by simp)]; exact R2'.out
      have E0 : Hid ((w1.alloc (.cells #[] 3)).ownsRow (bx + 3) 3 1 (.slice (some ⟨bx + 3, 0, none⟩) 0 0) 0 []) := by
        have := World.ownsRow_made w1 #[] 0 (base := bx + 3) (e := 3) (size := 1) (by omega) (by decide) rfl
        rw [hz1w] at this; exact this
      have KC : Hid ((qa = none → x.kept.length = 0 ∧ qc = 0) ∧ ∀ ad, qa = some ad → ∀ j u, (x.kept.map (Value.int .i64))[j]? = some u → (w1.alloc (.cells #[] 3)).cell? (ad.add j) = some u) := by
        obtain ⟨ao, cap, hv, hc, hm, h0, hx⟩ := HKw.out
        cases hv
        refine ⟨h0, fun ad had j u hu => ?_⟩
        rcases hx with hx | ⟨b, off, ha, hb, -, hcell⟩
        · rw [hx] at hu; simp at hu
        · rw [had] at ha; cases ha
          rw [Addr.add_lit]
          exact cell_alloc (cell_below B1.out (hcell j u hu)) _
      have g4 := cell_alloc (op_cells G1.out).2.2.2.2 (.cells #[] 3)
      have D0 : Hid (Below w1.heap.size w1 (w1.alloc (.cells #[] 3))) := (Below.refl _ _).alloc (Nat.le_refl _) _
      have hkl := HXK.out
      go_enter Try.func24, Try.ntmps24
      go_wp2_with (at_builtin; refine wpList_append_any rfl (.tmp 31) (.tmp 33) 37 rfl (bx + 3) 3 i0 (.int .i64 0) 1 8 Try.underlying37 hi hz0 hz1 hz2 rfl (by decide) (.slice (some ⟨bx + 3, 0, none⟩) 0 0) 0 [] rfl E0.out rfl qa x.kept.length qc (x.kept.map (.int .i64)) rfl KC.out.1 (by simp) KC.out.2 (ints_oneCell _ _) (by unfold maxLen; omega) (by omega) (by simp; omega) ?_)
      intro v2 w2 hown2 hg2 hsome2
      obtain ⟨g2, cap2, rfl, -, -, hg2l, hg2h⟩ := own_some hown2 hsome2
      have O2 : Hid (w2.ownsRow (bx + 3) 3 1 (.slice (some ⟨g2, 0, none⟩) x.kept.length cap2) x.kept.length (x.kept.map (.int .i64))) := by show World.ownsRow _ _ _ _ _ _ _; simpa using hown2
      have D2 : Hid (Below w1.heap.size w1 w2) := D0.out.grown hg2 (by simp) (by intro j hj; cases hj; show w1.heap.size ≤ bx + 3; omega)
      have GL : Hid (bx + 3 ≤ g2) := hg2l
      have hD2 := D2.out
      have C0 := heap_below hD2 G0.out
      have C2 := heap_below hD2 G2.out
      have C0' := Lib.hid C0; have C2' := Lib.hid C2
      clear hown2 hg2 hsome2 hg2l hg2h E0 KC D0 g4 x0 x1 x2 x3 x4 u0 u1 u2 u3 u4 y0 y1 y2 y3 y4 z z' hD2
      obtain ⟨x0, x1, x2, x3, x4⟩ := box_cells C0
      obtain ⟨y0, y1, y2, y3, y4⟩ := box_cells C2
      have z := box_frozen C0
      have z' := box_frozen C2
      clear C0 C2
      go_wp2_with (fail)
      obtain ⟨w7, hw7⟩ : ∃ w7, w2.setCell ⟨bx, 4, none⟩ (.slice (some ⟨g2, 0, none⟩) x.kept.length cap2) = w7 := ⟨_, rfl⟩
      rw [hw7]
      have S67 : Step (fun k => k = bx) w2 (fun k => k = bx) w7 := by rw [← hw7]; exact (Step.refl (fun k => k = bx) w2).setCell (.inl rfl) _
      have D7 : Below w.heap.size w w7 := by
        rw [← hw7]
        exact (B1.out.trans (D2.out.mono B1.out.size)).setCell (Nat.le_of_eq BX.out) _
      have C7 : w7.heap[bx + 2]? = some (.cells st0 48 (0, 0)) := (S67.block _ (by have := C2'.out; rw [Array.getElem?_eq_some_iff] at this; exact this.1) (by omega)).trans C2'.out
      obtain ⟨w9, hw9, P9, Q9, S9⟩ := put5 (w0 := w) (c0 := .slice ca n cc) (c1 := .slice wa s.wr.length wc) (c2 := .bool s.down) (c3 := .int .i64 x.pos) (c4 := .slice (some ⟨g2, 0, none⟩) x.kept.length cap2) C7 D7 (by have := BX.out; omega)
      rw [hw9]
      obtain ⟨z0, z1, z2, z3, z4⟩ := box_cells P9
      clear x0 x1 x2 x3 x4 y0 y1 y2 y3 y4 z z' hw9 hw7 hw1
      refine bodyPost_ret (v := .tuple #[.agg #[.slice ca n cc, .slice wa s.wr.length wc, .bool s.down, .int .i64 x.pos, .slice (some ⟨g2, 0, none⟩) x.kept.length cap2], .int .i64 0]) (by simp [results, Try.results24, go_sem, z0, z1, z2, z3, z4]) rfl ?_
      have k := HH.out.ints
      have hs := Step.of_below Q9 M
      have hgl := GL.out
      have hkk : Ints w9 M (.slice (some ⟨g2, 0, none⟩) x.kept.length cap2) x.kept := by
        have hl := (O2.out.lt g2 rfl).2
        have hr : w9.ownsRow (bx + 3) 3 1 (.slice (some ⟨g2, 0, none⟩) x.kept.length cap2) x.kept.length (x.kept.map (.int .i64)) :=
          ownsRow_of_block O2.out (fun b hb => by cases hb; exact (S9.block g2 (Nat.lt_of_lt_of_le hl S67.size) (by omega)).trans (S67.block g2 hl (by omega)))
        obtain ⟨ao, cap, hv, hc, hm, hz, hsh⟩ := ownsRow_shape hr
        cases hv
        obtain ⟨-, -, e3, e4⟩ := hsh _ rfl
        exact ⟨_, _, rfl, hc, hm, (fun h => by cases h), .inr ⟨g2, 0, rfl, (hr.lt g2 e3).2, fun hm => by have := HMM.out g2 hm; have := BX.out; omega, fun j u hu => by have := e4 j u hu; rwa [Addr.add_lit] at this⟩⟩
      exact ⟨_, rfl, ⟨_, _, _, rfl, k.1.step hs, k.2.1.step hs, hkk⟩, by first | exact Q9 | (rw [← BX.out]; exact Q9)⟩
    · have HQ : max x.pos 0 = 0 := by omega
      rw [HQ]; clear HQ
      obtain ⟨w1, hw1⟩ : ∃ w1, w0.setCell ⟨bx, 3, none⟩ (.int .i64 0) = w1 := ⟨_, rfl⟩
      have hz1w : w1.heap.size = bx + 3 := by rw [← hw1]; simpa [World.setCell] using SZ.out
      have B1 : Hid (Below w.heap.size w w1) := by show Below _ _ _; rw [← hw1]; exact B0.out.setCell (Nat.le_of_eq BX.out) _
      have G0 : Hid (w1.heap[bx]? = some (.cells (st5 (.slice ca n cc) (.slice wa s.wr.length wc) s.down 0 (.slice ka s.kept.length kc)) 48 (0, 0))) := by show _ = _; rw [← hw1, heap_setCell_same w0 bx 3 _ _ _ R0.out]; rfl
      have G1 : Hid (w1.heap[bx + 1]? = some (.cells (op5 x (.slice qa x.kept.length qc)) 40 (0, 0))) := by show _ = _; rw [← hw1, heap_setCell_other w0 ⟨bx, 3, none⟩ (bx + 1) _ (by simp)]; exact R1'.out
      have G2 : Hid (w1.heap[bx + 2]? = some (.cells st0 48 (0, 0))) := by show _ = _; rw [← hw1, heap_setCell_other w0 ⟨bx, 3, none⟩ (bx + 2) _ (by simp)]; exact R2'.out
      have E0 : Hid ((w1.alloc (.cells #[] 3)).ownsRow (bx + 3) 3 1 (.slice (some ⟨bx + 3, 0, none⟩) 0 0) 0 []) := by
        have := World.ownsRow_made w1 #[] 0 (base := bx + 3) (e := 3) (size := 1) (by omega) (by decide) rfl
        rw [hz1w] at this; exact this
      have KC : Hid ((qa = none → x.kept.length = 0 ∧ qc = 0) ∧ ∀ ad, qa = some ad → ∀ j u, (x.kept.map (Value.int .i64))[j]? = some u → (w1.alloc (.cells #[] 3)).cell? (ad.add j) = some u) := by
        obtain ⟨ao, cap, hv, hc, hm, h0, hx⟩ := HKw.out
        cases hv
        refine ⟨h0, fun ad had j u hu => ?_⟩
        rcases hx with hx | ⟨b, off, ha, hb, -, hcell⟩
        · rw [hx] at hu; simp at hu
        · rw [had] at ha; cases ha
          rw [Addr.add_lit]
          exact cell_alloc (cell_below B1.out (hcell j u hu)) _
      have g4 := cell_alloc (op_cells G1.out).2.2.2.2 (.cells #[] 3)
      have D0 : Hid (Below w1.heap.size w1 (w1.alloc (.cells #[] 3))) := (Below.refl _ _).alloc (Nat.le_refl _) _
      have hkl := HXK.out
      go_enter Try.func24, Try.ntmps24
      go_wp2_with (at_builtin; refine wpList_append_any rfl (.tmp 31) (.tmp 33) 37 rfl (bx + 3) 3 i0 (.int .i64 0) 1 8 Try.underlying37 hi hz0 hz1 hz2 rfl (by decide) (.slice (some ⟨bx + 3, 0, none⟩) 0 0) 0 [] rfl E0.out rfl qa x.kept.length qc (x.kept.map (.int .i64)) rfl KC.out.1 (by simp) KC.out.2 (ints_oneCell _ _) (by unfold maxLen; omega) (by omega) (by simp; omega) ?_)
      intro v2 w2 hown2 hg2 hsome2
      obtain ⟨g2, cap2, rfl, -, -, hg2l, hg2h⟩ := own_some hown2 hsome2
      have O2 : Hid (w2.ownsRow (bx + 3) 3 1 (.slice (some ⟨g2, 0, none⟩) x.kept.length cap2) x.kept.length (x.kept.map (.int .i64))) := by show World.ownsRow _ _ _ _ _ _ _; simpa using hown2
      have D2 : Hid (Below w1.heap.size w1 w2) := D0.out.grown hg2 (by simp) (by intro j hj; cases hj; show w1.heap.size ≤ bx + 3; omega)
      have GL : Hid (bx + 3 ≤ g2) := hg2l
      have hD2 := D2.out
      have C0 := heap_below hD2 G0.out
      have C2 := heap_below hD2 G2.out
      have C0' := Lib.hid C0; have C2' := Lib.hid C2
      clear hown2 hg2 hsome2 hg2l hg2h E0 KC D0 g4 x0 x1 x2 x3 x4 u0 u1 u2 u3 u4 y0 y1 y2 y3 y4 z z' hD2
      obtain ⟨x0, x1, x2, x3, x4⟩ := box_cells C0
      obtain ⟨y0, y1, y2, y3, y4⟩ := box_cells C2
      have z := box_frozen C0
      have z' := box_frozen C2
      clear C0 C2
      go_wp2_with (fail)
      obtain ⟨w7, hw7⟩ : ∃ w7, w2.setCell ⟨bx, 4, none⟩ (.slice (some ⟨g2, 0, none⟩) x.kept.length cap2) = w7 := ⟨_, rfl⟩
      rw [hw7]
      have S67 : Step (fun k => k = bx) w2 (fun k => k = bx) w7 := by rw [← hw7]; exact (Step.refl (fun k => k = bx) w2).setCell (.inl rfl) _
      have D7 : Below w.heap.size w w7 := by
        rw [← hw7]
        exact (B1.out.trans (D2.out.mono B1.out.size)).setCell (Nat.le_of_eq BX.out) _
      have C7 : w7.heap[bx + 2]? = some (.cells st0 48 (0, 0)) := (S67.block _ (by have := C2'.out; rw [Array.getElem?_eq_some_iff] at this; exact this.1) (by omega)).trans C2'.out
      obtain ⟨w9, hw9, P9, Q9, S9⟩ := put5 (w0 := w) (c0 := .slice ca n cc) (c1 := .slice wa s.wr.length wc) (c2 := .bool s.down) (c3 := .int .i64 0) (c4 := .slice (some ⟨g2, 0, none⟩) x.kept.length cap2) C7 D7 (by have := BX.out; omega)
      rw [hw9]
      obtain ⟨z0, z1, z2, z3, z4⟩ := box_cells P9
      clear x0 x1 x2 x3 x4 y0 y1 y2 y3 y4 z z' hw9 hw7 hw1
      refine bodyPost_ret (v := .tuple #[.agg #[.slice ca n cc, .slice wa s.wr.length wc, .bool s.down, .int .i64 0, .slice (some ⟨g2, 0, none⟩) x.kept.length cap2], .int .i64 0]) (by simp [results, Try.results24, go_sem, z0, z1, z2, z3, z4]) rfl ?_
      have k := HH.out.ints
      have hs := Step.of_below Q9 M
      have hgl := GL.out
      have hkk : Ints w9 M (.slice (some ⟨g2, 0, none⟩) x.kept.length cap2) x.kept := by
        have hl := (O2.out.lt g2 rfl).2
        have hr : w9.ownsRow (bx + 3) 3 1 (.slice (some ⟨g2, 0, none⟩) x.kept.length cap2) x.kept.length (x.kept.map (.int .i64)) :=
          ownsRow_of_block O2.out (fun b hb => by cases hb; exact (S9.block g2 (Nat.lt_of_lt_of_le hl S67.size) (by omega)).trans (S67.block g2 hl (by omega)))
        obtain ⟨ao, cap, hv, hc, hm, hz, hsh⟩ := ownsRow_shape hr
        cases hv
        obtain ⟨-, -, e3, e4⟩ := hsh _ rfl
        exact ⟨_, _, rfl, hc, hm, (fun h => by cases h), .inr ⟨g2, 0, rfl, (hr.lt g2 e3).2, fun hm => by have := HMM.out g2 hm; have := BX.out; omega, fun j u hu => by have := e4 j u hu; rwa [Addr.add_lit] at this⟩⟩
      exact ⟨_, rfl, ⟨_, _, _, rfl, k.1.step hs, k.2.1.step hs, hkk⟩, by first | exact Q9 | (rw [← BX.out]; exact Q9)⟩
  by_cases n8 : m = 8
  · rw [n8] at hm
    have e4 : (x.kind % 10 == 4) = false := by rw [hm]; rfl
    have e5 : (x.kind % 10 == 5) = false := by rw [hm]; rfl
    have e6 : (x.kind % 10 == 6) = false := by rw [hm]; rfl
    have e7 : (x.kind % 10 == 7) = false := by rw [hm]; rfl
    have e8 : (x.kind % 10 == 8) = true := by rw [hm]; rfl
    rw [if_neg n4]
    rw [if_neg n5]
    rw [if_neg n6]
    rw [if_neg n7]
    rw [if_pos n8]
    clear hm hm0 hm9
    obtain ⟨y0, y1, y2, y3, y4⟩ := box_cells R2'.out
    have z := box_frozen R2'.out
    have z' := box_frozen R0.out
    go_enter Try.func24, Try.ntmps24
    go_wp2_with (fail)
    have RR := R2'.out
    have B1 := B0.out
    obtain ⟨w9, hw9, P9, Q9, S9⟩ := put5 (w0 := w) (c0 := .slice ca n cc) (c1 := .slice wa s.wr.length wc) (c2 := .bool s.down) (c3 := .int .i64 s.fuse) (c4 := .slice ka s.kept.length kc) RR B1 (by have := BX.out; omega)
    rw [hw9]
    obtain ⟨z0, z1, z2, z3, z4⟩ := box_cells P9
    clear x0 x1 x2 x3 x4 u0 u1 u2 u3 u4 y0 y1 y2 y3 y4 z z' hw9
    refine bodyPost_ret (v := .tuple #[.agg #[.slice ca n cc, .slice wa s.wr.length wc, .bool s.down, .int .i64 s.fuse, .slice ka s.kept.length kc], .int .i64 0]) (by simp [results, Try.results24, go_sem, z0, z1, z2, z3, z4]) rfl ?_
    have k := HH.out.ints
    have hs := Step.of_below Q9 M
    exact ⟨_, rfl, ⟨_, _, _, rfl, k.1.step hs, k.2.1.step hs, k.2.2.step hs⟩, by first | exact Q9 | (rw [← BX.out]; exact Q9)⟩
  by_cases n9 : m = 9
  · rw [n9] at hm
    have e4 : (x.kind % 10 == 4) = false := by rw [hm]; rfl
    have e5 : (x.kind % 10 == 5) = false := by rw [hm]; rfl
    have e6 : (x.kind % 10 == 6) = false := by rw [hm]; rfl
    have e7 : (x.kind % 10 == 7) = false := by rw [hm]; rfl
    have e8 : (x.kind % 10 == 8) = false := by rw [hm]; rfl
    have e9 : (x.kind % 10 == 9) = true := by rw [hm]; rfl
    rw [if_neg n4]
    rw [if_neg n5]
    rw [if_neg n6]
    rw [if_neg n7]
    rw [if_neg n8]
    rw [if_pos n9]
    clear hm hm0 hm9
    obtain ⟨y0, y1, y2, y3, y4⟩ := box_cells R2'.out
    have z := box_frozen R2'.out
    have z' := box_frozen R0.out
    go_enter Try.func24, Try.ntmps24
    go_wp2_with (fail)
    have RR := R2'.out
    have B1 := B0.out
    obtain ⟨w9, hw9, P9, Q9, S9⟩ := put5 (w0 := w) (c0 := .slice ca n cc) (c1 := .slice wa s.wr.length wc) (c2 := .bool s.down) (c3 := .int .i64 s.fuse) (c4 := .slice ka s.kept.length kc) RR B1 (by have := BX.out; omega)
    rw [hw9]
    obtain ⟨z0, z1, z2, z3, z4⟩ := box_cells P9
    clear x0 x1 x2 x3 x4 u0 u1 u2 u3 u4 y0 y1 y2 y3 y4 z z' hw9
    refine bodyPost_ret (v := .tuple #[.agg #[.slice ca n cc, .slice wa s.wr.length wc, .bool s.down, .int .i64 s.fuse, .slice ka s.kept.length kc], .int .i64 0]) (by simp [results, Try.results24, go_sem, z0, z1, z2, z3, z4]) rfl ?_
    have k := HH.out.ints
    have hs := Step.of_below Q9 M
    exact ⟨_, rfl, ⟨_, _, _, rfl, k.1.step hs, k.2.1.step hs, k.2.2.step hs⟩, by first | exact Q9 | (rw [← BX.out]; exact Q9)⟩
  omega

end Go.Proofs.Ythnolhcknhhipaa
