/-
  The reference's burn.
  Condition: fewer than 2^30 writes are pending.
-/
import Derived.Test.YthnolhcknhhipaaDkRefD
namespace Go.Proofs.Ythnolhcknhhipaa
set_option linter.unusedVariables false
set_option linter.unusedSimpArgs false
open Go.RowKit

theorem RefAt.wide {w : World} {M M' : Nat → Prop} {n : Nat} {v : Value} {s : DS} (h : RefAt w M' n v s) (hM : ∀ k, M k → M' k) : RefAt w M n v s :=
  h.step ((Step.refl M' w).to (fun _ h => h) (fun k hk => .inl (hM k hk)))

/-- The slices of a state by their shapes. -/
theorem RefAt.shapes {w : World} {M : Nat → Prop} {n : Nat} {v : Value} {s : DS} (h : RefAt w M n v s) :
    ∃ ca cc wa wc ka kc, v = .agg #[.slice ca n cc, .slice wa s.wr.length wc, .bool s.down, .int .i64 s.fuse, .slice ka s.kept.length kc] := by
  obtain ⟨C, W, K, rfl, ⟨ca, cc, rfl, -⟩, ⟨wa, wc, rfl, -⟩, ⟨ka, kc, rfl, -⟩⟩ := h
  exact ⟨ca, cc, wa, wc, ka, kc, by rw [sects_length]⟩

theorem RefAt.ints {w : World} {M : Nat → Prop} {n : Nat} {C W K : Value} {d : Bool} {f : Int} {s : DS} (h : RefAt w M n (.agg #[C, W, .bool d, .int .i64 f, K]) s) : Grid w M C (sects s.dur n) ∧ Pend w M W s.wr ∧ Ints w M K s.kept := by
  obtain ⟨C', W', K', e, h1, h2, h3⟩ := h
  cases e
  exact ⟨h1, h2, h3⟩

theorem box_frozen {w0 : World} {b : Nat} {cs : Array Value} {t : TypeId} (h : w0.heap[b]? = some (.cells cs t (0, 0))) (i : Nat) : w0.frozen? ⟨b, i, none⟩ = false := by simp [World.frozen?, h]

/-- The blocks that a method of the state keeps for its result, and those that its caller keeps. -/
def Keep (M : Nat → Prop) (b : Nat) : Nat → Prop := fun k => M k ∨ k = b

theorem RefAt.keep {w w' : World} {M : Nat → Prop} {n b : Nat} {v : Value} {s : DS} (h : RefAt w M n v s) (hb : Below w.heap.size w w') (hl : w.heap.size ≤ b) : RefAt w' (Keep M b) n v s :=
  h.step ((Step.of_below hb M).to (fun _ h => h) (fun k hk => hk.elim .inl (fun e => .inr (by omega))))

theorem Keep.lt {M : Nat → Prop} {b : Nat} {w : World} (h : ∀ k, M k → k < w.heap.size) (hb : b < w.heap.size) : ∀ k, Keep M b k → k < w.heap.size := fun k hk => hk.elim (h k) (fun e => by omega)

/-- The state behind writes to the block that is kept for the result. -/
theorem RefAt.result {w w' : World} {M : Nat → Prop} {n b : Nat} {v : Value} {s : DS} (h : RefAt w (Keep M b) n v s) (hs : Step (fun k => k = b) w (fun k => k = b) w') : RefAt w' M n v s :=
  (RefAt.step h (hs.to (M := Keep M b) (M' := Keep M b) (fun k hk => .inr hk) (fun k hk => .inl hk))).wide (fun k hk => .inl hk)

set_option maxRecDepth 100000 in
set_option maxHeartbeats 2000000 in
theorem refburn_crash (w : World) (M : Nat → Prop) (hM : ∀ b, M b → b < w.heap.size) (n : Nat) (v : Value) (s : DS) (h : RefAt w M n v s) (ok : s.Ok n) (hwr : s.wr.length < 1073741824) (hf : s.fuse = 1) :
    Calls Try.prog 38 #[v] w fun e w' => ∃ r, e = .returned (.tuple #[r, .bool true]) ∧ RefAt w' M n r (s.crash s.kept) ∧ Below w.heap.size w w' := by
  obtain ⟨ca, cc, wa, wc, ka, kc, rfl⟩ := h.shapes
  obtain ⟨w0, bx, hw0q, hbx, hbx1, hsz, hB, hB1, hb0⟩ := @ref_entry w (.slice ca n cc) (.slice wa s.wr.length wc) (.slice ka s.kept.length kc) s.down s.fuse
  have HR : Hid (RefAt w0 (Keep M (bx + 1)) n (.agg #[.slice ca n cc, .slice wa s.wr.length wc, .bool s.down, .int .i64 s.fuse, .slice ka s.kept.length kc]) s) := h.keep hb0 (by omega)
  have HK : Hid (Ints w0 NoB (.slice ka s.kept.length kc) s.kept) := Reads.wide HR.out.ints.2.2 (fun _ _ h => h.elim)
  have HM : Hid (∀ b, Keep M (bx + 1) b → b < w0.heap.size) := Keep.lt (fun k hk => Nat.lt_of_lt_of_le (hM k hk) hb0.size) (by omega)
  obtain ⟨x0, x1, x2, x3, x4⟩ := box_cells hB
  have B0 := Lib.hid hb0; have OK := Lib.hid ok; have R1 := Lib.hid hB1; have BX := Lib.hid hbx; have HWR := Lib.hid hwr
  have e1 : (s.fuse == 1) = true := by simp [hf]
  clear h hB hb0 ok hB1 hwr hM hf
  go_enter Try.func38, Try.ntmps38
  go_wp2_with (fail)
  refine (refcrash_any w0 _ HM.out n _ s HR.out OK.out _ s.kept HK.out HWR.out).mono ?_
  rintro e w2 ⟨r, rfl, hr, hb2⟩
  obtain ⟨t, ht⟩ : ∃ t, s.crash s.kept = t := ⟨_, rfl⟩
  rw [ht] at hr
  have HT := Lib.hid ht; clear ht
  obtain ⟨da, dc, ea, ec, fa, fc, rfl⟩ := hr.shapes
  have HR2 := Lib.hid hr
  have B2 := Lib.hid (B0.out.trans (hb2.mono B0.out.size))
  have R2 := heap_below hb2 R1.out
  have RR := Lib.hid R2
  obtain ⟨y0, y1, y2, y3, y4⟩ := box_cells R2
  have z := box_frozen R2
  clear hr hb2 R2 x0 x1 x2 x3 x4 HR HK HM R1
  go_wp2_with (fail)
  obtain ⟨w9, hw9, P9, Q9, S9⟩ := put5 (w0 := w) (c0 := .slice da n dc) (c1 := .slice ea t.wr.length ec) (c2 := .bool t.down) (c3 := .int .i64 t.fuse) (c4 := .slice fa t.kept.length fc) RR.out B2.out (by have := BX.out; omega)
  rw [hw9]
  obtain ⟨z0, z1, z2, z3, z4⟩ := box_cells P9
  clear y0 y1 y2 y3 y4 z hw9
  refine bodyPost_ret (v := .tuple #[.agg #[.slice da n dc, .slice ea t.wr.length ec, .bool t.down, .int .i64 t.fuse, .slice fa t.kept.length fc], .bool true]) (by simp [results, Try.results38, go_sem, z0, z1, z2, z3, z4]) rfl ?_
  rw [HT.out]
  exact ⟨_, rfl, HR2.out.result S9, Q9⟩

set_option maxRecDepth 100000 in
set_option maxHeartbeats 2000000 in
theorem refburn_on (w : World) (M : Nat → Prop) (hM : ∀ b, M b → b < w.heap.size) (n : Nat) (v : Value) (s : DS) (h : RefAt w M n v s) (ok : s.Ok n) (hf : s.fuse ≠ 1) :
    Calls Try.prog 38 #[v] w fun e w' => ∃ r, e = .returned (.tuple #[r, .bool false]) ∧ RefAt w' M n r { s with fuse := max (s.fuse - 1) 0 } ∧ Below w.heap.size w w' := by
  obtain ⟨ca, cc, wa, wc, ka, kc, rfl⟩ := h.shapes
  obtain ⟨w0, bx, hw0q, hbx, hbx1, hsz, hB, hB1, hb0⟩ := @ref_entry w (.slice ca n cc) (.slice wa s.wr.length wc) (.slice ka s.kept.length kc) s.down s.fuse
  have HH := Lib.hid h
  obtain ⟨x0, x1, x2, x3, x4⟩ := box_cells hB
  obtain ⟨y0, y1, y2, y3, y4⟩ := box_cells hB1
  have z := box_frozen hB
  have z' := box_frozen hB1
  have e1 : (s.fuse == 1) = false := by simp [hf]
  have B0 := Lib.hid hb0; have R0 := Lib.hid hB; have R1 := Lib.hid hB1; have BX := Lib.hid hbx
  have f0 := ok.fuse0
  have f1 := ok.fuse1
  clear h hB hb0 ok hB1 hM hf
  by_cases h0 : 0 ≤ s.fuse - 1
  · have HQ : Hid (max (s.fuse - 1) 0 = s.fuse - 1) := by show _ = _; omega
    go_enter Try.func38, Try.ntmps38
    go_wp2_with (fail)
    obtain ⟨w1, hw1⟩ : ∃ w1, w0.setCell ⟨bx, 3, none⟩ (.int .i64 (s.fuse - 1)) = w1 := ⟨_, rfl⟩
    rw [hw1]
    have B1 : Below w.heap.size w w1 := by rw [← hw1]; exact B0.out.setCell (Nat.le_of_eq BX.out) _
    have R1' : w1.heap[bx + 1]? = some (.cells st0 48 (0, 0)) := by rw [← hw1, heap_setCell_other w0 ⟨bx, 3, none⟩ (bx + 1) _ (by simp)]; exact R1.out
    obtain ⟨w9, hw9, P9, Q9, -⟩ := put5 (w0 := w) (c0 := .slice ca n cc) (c1 := .slice wa s.wr.length wc) (c2 := .bool s.down) (c3 := .int .i64 (s.fuse - 1)) (c4 := .slice ka s.kept.length kc) R1' B1 (by have := BX.out; omega)
    rw [hw9]
    obtain ⟨z0, z1, z2, z3, z4⟩ := box_cells P9
    clear x0 x1 x2 x3 x4 y0 y1 y2 y3 y4 z z' hw9 hw1
    refine bodyPost_ret (v := .tuple #[.agg #[.slice ca n cc, .slice wa s.wr.length wc, .bool s.down, .int .i64 (s.fuse - 1), .slice ka s.kept.length kc], .bool false]) (by simp [results, Try.results38, go_sem, z0, z1, z2, z3, z4]) rfl ?_
    have k := HH.out.ints
    have hs := Step.of_below Q9 M
    rw [HQ.out]
    exact ⟨_, rfl, ⟨_, _, _, rfl, k.1.step hs, k.2.1.step hs, k.2.2.step hs⟩, by first | exact Q9 | (rw [← BX.out]; exact Q9)⟩
  · have HQ : Hid (max (s.fuse - 1) 0 = 0) := by show _ = _; omega
    go_enter Try.func38, Try.ntmps38
    go_wp2_with (fail)
    obtain ⟨w1, hw1⟩ : ∃ w1, w0.setCell ⟨bx, 3, none⟩ (.int .i64 0) = w1 := ⟨_, rfl⟩
    rw [hw1]
    have B1 : Below w.heap.size w w1 := by rw [← hw1]; exact B0.out.setCell (Nat.le_of_eq BX.out) _
    have R1' : w1.heap[bx + 1]? = some (.cells st0 48 (0, 0)) := by rw [← hw1, heap_setCell_other w0 ⟨bx, 3, none⟩ (bx + 1) _ (by simp)]; exact R1.out
    obtain ⟨w9, hw9, P9, Q9, -⟩ := put5 (w0 := w) (c0 := .slice ca n cc) (c1 := .slice wa s.wr.length wc) (c2 := .bool s.down) (c3 := .int .i64 0) (c4 := .slice ka s.kept.length kc) R1' B1 (by have := BX.out; omega)
    rw [hw9]
    obtain ⟨z0, z1, z2, z3, z4⟩ := box_cells P9
    clear x0 x1 x2 x3 x4 y0 y1 y2 y3 y4 z z' hw9 hw1
    refine bodyPost_ret (v := .tuple #[.agg #[.slice ca n cc, .slice wa s.wr.length wc, .bool s.down, .int .i64 0, .slice ka s.kept.length kc], .bool false]) (by simp [results, Try.results38, go_sem, z0, z1, z2, z3, z4]) rfl ?_
    have k := HH.out.ints
    have hs := Step.of_below Q9 M
    rw [HQ.out]
    exact ⟨_, rfl, ⟨_, _, _, rfl, k.1.step hs, k.2.1.step hs, k.2.2.step hs⟩, by first | exact Q9 | (rw [← BX.out]; exact Q9)⟩

end Go.Proofs.Ythnolhcknhhipaa
