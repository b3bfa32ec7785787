/-
  The reference's Write as one contract; its Flush.
  Condition: fewer than 2^30 writes are pending.
-/
import Derived.Test.YthnolhcknhhipaaDkRefH
namespace Go.Proofs.Ythnolhcknhhipaa
set_option linter.unusedVariables false
set_option linter.unusedSimpArgs false
open Go.RowKit

theorem refwrite_any (w : World) (M : Nat → Prop) (hM : ∀ b, M b → b < w.heap.size) (n : Nat) (v u : Value) (s : DS) (h : RefAt w M n v s) (ok : s.Ok n) (hwr : s.wr.length < 1073741824) (x : Int) (hx0 : -9223372036854775808 ≤ x) (hx1 : x ≤ 9223372036854775807) (data : List Int) (hu : Bytes w NoB u data) :
    Calls Try.prog 34 #[v, .int .i64 x, u] w fun e w' => ∃ r, e = .returned (.tuple #[r, .int .i64 (s.writeAny n x data).1]) ∧ RefAt w' M n r (s.writeAny n x data).2 ∧ Below w.heap.size w w' := by
  unfold DS.writeAny
  by_cases hc : 0 ≤ x ∧ x < n ∧ data.length = 64
  · rw [if_pos hc]
    obtain ⟨h0, h1, hdl⟩ := hc
    cases hdn : s.down with
    | true =>
      have e : s.write x data = (340, s) := by simp [DS.write, DS.ready, hdn]
      rw [e]; exact refwrite_down w M hM n v u s h ok hwr x data hu h0 h1 hdl hdn
    | false =>
      by_cases hf : s.fuse = 1
      · have e : s.write x data = (340, s.crash s.kept) := by simp [DS.write, DS.ready, hdn, hf]
        rw [e]; exact refwrite_crash w M hM n v u s h ok hwr x data hu h0 h1 hdl hdn hf
      · have e : s.write x data = (0, { s with fuse := max (s.fuse - 1) 0, wr := s.wr ++ [(x, data)] }) := by simp [DS.write, DS.ready, hdn, hf]
        rw [e]; exact refwrite_on w M hM n v u s h ok hwr x data hu h0 h1 hdl hdn hf
  · rw [if_neg hc]
    exact refwrite_bad w M hM n v u s h ok hwr x hx0 hx1 data hu hc

set_option maxRecDepth 100000 in
set_option maxHeartbeats 2000000 in
theorem refflush_down (w : World) (M : Nat → Prop) (hM : ∀ b, M b → b < w.heap.size) (n : Nat) (v : Value) (s : DS) (h : RefAt w M n v s) (ok : s.Ok n) (hwr : s.wr.length < 1073741824) (hdn : s.down = true) :
    Calls Try.prog 32 #[v] w fun e w' => ∃ r, e = .returned (.tuple #[r, .int .i64 340]) ∧ RefAt w' M n r s ∧ Below w.heap.size w w' := by
  obtain ⟨ca, cc, wa, wc, ka, kc, rfl⟩ := h.shapes
  obtain ⟨w0, bx, hw0q, hbx, hbx1, hsz, hB, hB1, hb0⟩ := @ref_entry w (.slice ca n cc) (.slice wa s.wr.length wc) (.slice ka s.kept.length kc) s.down s.fuse
  have HH := Lib.hid h
  have HR : Hid (RefAt w0 (Keep M (bx + 1)) n (.agg #[.slice ca n cc, .slice wa s.wr.length wc, .bool s.down, .int .i64 s.fuse, .slice ka s.kept.length kc]) s) := h.keep hb0 (by omega)
  have HM : Hid (∀ b, Keep M (bx + 1) b → b < w0.heap.size) := Keep.lt (fun k hk => Nat.lt_of_lt_of_le (hM k hk) hb0.size) (by omega)
  have HMM := Lib.hid hM
  obtain ⟨x0, x1, x2, x3, x4⟩ := box_cells hB
  obtain ⟨y0, y1, y2, y3, y4⟩ := box_cells hB1
  have z := box_frozen hB1
  have B0 := Lib.hid hb0; have OK := Lib.hid ok; have R0 := Lib.hid hB; have R1 := Lib.hid hB1; have BX := Lib.hid hbx; have HWR := Lib.hid hwr; have SZ := Lib.hid hsz
  have hn := ok.hi
  clear h hB hb0 ok hB1 hwr hM hsz
  have HDN := Lib.hid hdn
  rw [hdn] at x2 hw0q hbx1 ⊢
  clear hdn
  go_enter Try.func32, Try.ntmps32
  go_wp2_with (fail)
  obtain ⟨w9, hw9, P9, Q9, -⟩ := put5 (w0 := w) (c0 := .slice ca n cc) (c1 := .slice wa s.wr.length wc) (c2 := .bool true) (c3 := .int .i64 s.fuse) (c4 := .slice ka s.kept.length kc) R1.out B0.out (by have := BX.out; omega)
  rw [hw9]
  obtain ⟨z0, z1, z2, z3, z4⟩ := box_cells P9
  clear x0 x1 x2 x3 x4 y0 y1 y2 y3 y4 z hw9
  refine bodyPost_ret (v := .tuple #[.agg #[.slice ca n cc, .slice wa s.wr.length wc, .bool true, .int .i64 s.fuse, .slice ka s.kept.length kc], .int .i64 340]) (by simp [results, Try.results32, go_sem, z0, z1, z2, z3, z4]) rfl ?_
  have k := HH.out.ints
  have hs := Step.of_below Q9 M
  exact ⟨_, rfl, ⟨_, _, _, by rw [HDN.out], k.1.step hs, k.2.1.step hs, k.2.2.step hs⟩, by first | exact Q9 | (rw [← BX.out]; exact Q9)⟩

set_option maxRecDepth 100000 in
set_option maxHeartbeats 2000000 in
theorem refflush_crash (w : World) (M : Nat → Prop) (hM : ∀ b, M b → b < w.heap.size) (n : Nat) (v : Value) (s : DS) (h : RefAt w M n v s) (ok : s.Ok n) (hwr : s.wr.length < 1073741824) (hdn : s.down = false) (hf : s.fuse = 1) :
    Calls Try.prog 32 #[v] w fun e w' => ∃ r, e = .returned (.tuple #[r, .int .i64 340]) ∧ RefAt w' M n r (s.crash s.kept) ∧ Below w.heap.size w w' := by
  obtain ⟨ca, cc, wa, wc, ka, kc, rfl⟩ := h.shapes
  obtain ⟨w0, bx, hw0q, hbx, hbx1, hsz, hB, hB1, hb0⟩ := @ref_entry w (.slice ca n cc) (.slice wa s.wr.length wc) (.slice ka s.kept.length kc) s.down s.fuse
  have HH := Lib.hid h
  have HR : Hid (RefAt w0 (Keep M (bx + 1)) n (.agg #[.slice ca n cc, .slice wa s.wr.length wc, .bool s.down, .int .i64 s.fuse, .slice ka s.kept.length kc]) s) := h.keep hb0 (by omega)
  have HM : Hid (∀ b, Keep M (bx + 1) b → b < w0.heap.size) := Keep.lt (fun k hk => Nat.lt_of_lt_of_le (hM k hk) hb0.size) (by omega)
  have HMM := Lib.hid hM
  obtain ⟨x0, x1, x2, x3, x4⟩ := box_cells hB
  obtain ⟨y0, y1, y2, y3, y4⟩ := box_cells hB1
  have z := box_frozen hB1
  have B0 := Lib.hid hb0; have OK := Lib.hid ok; have R0 := Lib.hid hB; have R1 := Lib.hid hB1; have BX := Lib.hid hbx; have HWR := Lib.hid hwr; have SZ := Lib.hid hsz
  have hn := ok.hi
  clear h hB hb0 ok hB1 hwr hM hsz
  have HDN := Lib.hid hdn
  have HF := Lib.hid hf
  rw [hdn] at x2 hw0q hbx1 HR ⊢
  clear hdn hf
  go_enter Try.func32, Try.ntmps32
  go_wp2_with (fail)
  refine (refburn_crash w0 _ HM.out n _ s HR.out OK.out HWR.out HF.out).mono ?_
  rintro e w2 ⟨r, rfl, hr, hb2⟩
  obtain ⟨t, ht⟩ : ∃ t, s.crash s.kept = t := ⟨_, rfl⟩
  rw [ht] at hr
  have HT := Lib.hid ht; clear ht
  obtain ⟨da, dc, ea, ec, fa, fc, rfl⟩ := hr.shapes
  have HR2 := Lib.hid hr
  have B2 := Lib.hid (B0.out.trans (hb2.mono B0.out.size))
  have RR := Lib.hid (heap_below hb2 R1.out)
  clear x0 x1 x2 x3 x4 y0 y1 y2 y3 y4 z hr hw0q hbx1
  obtain ⟨w3, bo, hw3q, hbo, R3, S3, X3⟩ := out_box w2 (.slice da n dc) (.slice ea t.wr.length ec) (.slice fa t.kept.length fc) t.down t.fuse
  obtain ⟨y0, y1, y2, y3, y4⟩ := box_cells R3
  have hbo2 : bx + 1 < bo := by have h1 := hb2.size; have h2 := SZ.out; omega
  have RR3 : Hid (w3.heap[bx + 1]? = some (.cells st0 48 (0, 0))) := (X3 _ (by omega)).trans RR.out
  have z := box_frozen RR3.out
  obtain ⟨t0, t1, t2, t3, t4⟩ := box_cells RR3.out
  have B3 : Hid (Below w.heap.size w w3) := B2.out.trans (S3.mono B2.out.size)
  have HR3 : Hid (RefAt w3 (Keep M (bx + 1)) n (.agg #[.slice da n dc, .slice ea t.wr.length ec, .bool t.down, .int .i64 t.fuse, .slice fa t.kept.length fc]) t) := HR2.out.step (Step.of_below S3 _)
  clear hb2 RR B2 HR2 R3 S3 X3
  go_wp2_with (with_reducible refine wpList_store_last rfl 48 (.tmp 4) (.tmp 13) rfl st0 (st5 (.slice da n dc) (.slice ea t.wr.length ec) t.down t.fuse (.slice fa t.kept.length fc)) rfl rfl size_state rfl (st5_one _ _ _ _ _ _ _ _ _ _ _) ?_)
  obtain ⟨w9, hw9, P9, Q9, S9⟩ := put5 (w0 := w) (c0 := .slice da n dc) (c1 := .slice ea t.wr.length ec) (c2 := .bool t.down) (c3 := .int .i64 t.fuse) (c4 := .slice fa t.kept.length fc) RR3.out B3.out (by have := BX.out; omega)
  rw [hw9]
  obtain ⟨z0, z1, z2, z3, z4⟩ := box_cells P9
  clear y0 y1 y2 y3 y4 z hw9 t0 t1 t2 t3 t4
  refine bodyPost_ret (v := .tuple #[.agg #[.slice da n dc, .slice ea t.wr.length ec, .bool t.down, .int .i64 t.fuse, .slice fa t.kept.length fc], .int .i64 340]) (by simp [results, Try.results32, go_sem, z0, z1, z2, z3, z4]) rfl ?_
  rw [HT.out]
  exact ⟨_, rfl, HR3.out.result S9, Q9⟩

end Go.Proofs.Ythnolhcknhhipaa
