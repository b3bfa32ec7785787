/-
  The reference's Flush, where it goes through.
  Condition: fewer than 2^30 writes are pending.
-/
import Derived.Test.YthnolhcknhhipaaDkRefI
namespace Go.Proofs.Ythnolhcknhhipaa
set_option linter.unusedVariables false
set_option linter.unusedSimpArgs false
open Go.RowKit

theorem flush_step (dur : List Int) (n : Nat) (hd : dur.length = 64 * n) (l : List (Int × List Int)) (hl : ∀ p ∈ l, 0 ≤ p.1 ∧ p.1 < n ∧ p.2.length = 64) (j : Nat) (hj : j < l.length) :
    sects (flushFold dur (l.take (j + 1))) n = (sects (flushFold dur (l.take j)) n).set l[j].1.toNat l[j].2 := by
  have hp := hl l[j] (List.getElem_mem hj)
  have hdj : (flushFold dur (l.take j)).length = 64 * n := flushFold_length _ _ _ hd (fun p hp => hl p (List.mem_of_mem_take hp))
  rw [take_snoc' _ _ hj, flushFold_snoc]
  apply List.ext_getElem
  · simp [sects]
  · intro i h1 h2
    have hi : i < n := by simpa [sects] using h1
    rw [sects_get, sect_splice _ _ n _ _ hdj (by omega) (by omega)]
    by_cases hq : l[j].1.toNat = i
    · subst hq
      rw [if_pos rfl, List.getElem_set_self, splice_whole _ _ (by rw [sect_length hdj hi]; exact hp.2.2)]
    · rw [if_neg hq, List.getElem_set_ne hq, sects_get]

set_option maxRecDepth 100000 in
set_option maxHeartbeats 2000000 in
theorem refflush_on (w : World) (M : Nat → Prop) (hM : ∀ b, M b → b < w.heap.size) (n : Nat) (v : Value) (s : DS) (h : RefAt w M n v s) (ok : s.Ok n) (hwr : s.wr.length < 1073741824) (hdn : s.down = false) (hf : s.fuse ≠ 1) :
    Calls Try.prog 32 #[v] w fun e w' => ∃ r, e = .returned (.tuple #[r, .int .i64 0]) ∧ RefAt w' M n r { s with dur := flushFold s.dur s.wr, fuse := max (s.fuse - 1) 0, wr := [] } ∧ Below w.heap.size w w' := by
  obtain ⟨ca, cc, wa, wc, ka, kc, rfl⟩ := h.shapes
  obtain ⟨w0, bx, hw0q, hbx, hbx1, hsz, hB, hB1, hb0⟩ := @ref_entry w (.slice ca n cc) (.slice wa s.wr.length wc) (.slice ka s.kept.length kc) s.down s.fuse
  have HH := Lib.hid h
  have HR : Hid (RefAt w0 (Keep M (bx + 1)) n (.agg #[.slice ca n cc, .slice wa s.wr.length wc, .bool s.down, .int .i64 s.fuse, .slice ka s.kept.length kc]) s) := h.keep hb0 (by omega)
  have HM : Hid (∀ b, Keep M (bx + 1) b → b < w0.heap.size) := Keep.lt (fun k hk => Nat.lt_of_lt_of_le (hM k hk) hb0.size) (by omega)
  have HMM := Lib.hid hM
  obtain ⟨x0, x1, x2, x3, x4⟩ := box_cells hB
  obtain ⟨y0, y1, y2, y3, y4⟩ := box_cells hB1
  have z := box_frozen hB1
  have B0 := Lib.hid hb0; have OK := Lib.hid ok; have R0 := Lib.hid hB; have R1 := Lib.hid hB1; have BX := Lib.hid hbx; have HWR := Lib.hid hwr; have SZ := Lib.hid hsz
  have hn := ok.hi
  clear h hB hb0 ok hB1 hwr hM hsz
  have HDN := Lib.hid hdn
  have HF := Lib.hid hf
  obtain ⟨i0, hi, hz0, hz1, hz2⟩ := info_parts infobytes
  rw [hdn] at x2 hw0q hbx1 HR R0 ⊢
  clear hdn hf
  go_enter Try.func32, Try.ntmps32
  go_wp2_with (fail)
  refine (refburn_on w0 _ HM.out n _ s HR.out OK.out HF.out).mono ?_
  rintro e w2 ⟨r, rfl, hr, hb2⟩
  obtain ⟨q, hq⟩ : ∃ q, max (s.fuse - 1) 0 = q := ⟨_, rfl⟩
  rw [hq] at hr
  have HQ := Lib.hid hq; clear hq
  obtain ⟨da, dc, ea, ec, fa, fc, rfl⟩ := hr.shapes
  simp only at hr
  have HR2 := Lib.hid hr
  have B2 := Lib.hid (B0.out.trans (hb2.mono B0.out.size))
  have RR := Lib.hid (heap_below hb2 R1.out)
  have RB := Lib.hid (heap_below hb2 R0.out)
  clear x0 x1 x2 x3 x4 y0 y1 y2 y3 y4 z hr hw0q hbx1
  obtain ⟨w3, bo, hw3q, hbo, R3, S3, X3⟩ := out_box w2 (.slice da n dc) (.slice ea s.wr.length ec) (.slice fa s.kept.length fc) s.down q
  have hs3 : w3.heap.size = bo + 1 := by rw [← hw3q, ← hbo]; simp
  have hbo2 : bx + 1 < bo := by have h1 := hb2.size; have h2 := SZ.out; omega
  have RR3 : Hid (w3.heap[bx + 1]? = some (.cells st0 48 (0, 0))) := (X3 _ (by omega)).trans RR.out
  have RB3 := (X3 bx (by omega)).trans RB.out
  have RB3' := Lib.hid RB3
  have x0 := cell_alloc (box_cells RB3).1 (.cells #[] 26)
  have B3 : Hid (Below w.heap.size w w3) := B2.out.trans (S3.mono B2.out.size)
  have HR3 : Hid (RefAt w3 (Keep (Keep M (bx + 1)) bo) n (.agg #[.slice da n dc, .slice ea s.wr.length ec, .bool s.down, .int .i64 q, .slice fa s.kept.length fc]) { s with fuse := q }) := HR2.out.step (Step.keep S3 (by omega))
  have hk := HR.out.ints
  have HP3 : Hid (Pend w3 (Keep (Keep M (bx + 1)) bo) (.slice wa s.wr.length wc) s.wr) := (hk.2.1.step (Step.of_below hb2 _)).step (Step.keep S3 (by omega))
  have HG3 : Grid w3 (Keep (Keep M (bx + 1)) bo) (.slice ca n cc) (sects s.dur n) := (hk.1.step (Step.of_below hb2 _)).step (Step.keep S3 (by omega))
  obtain ⟨cb, co, cc', us, hcv, hul, huc, huu⟩ := HG3.us (by rw [sects_length]; exact OK.out.lo)
  simp only [sects_length] at hcv hul huu
  cases hcv
  have R3' := Lib.hid R3
  have UU := Lib.hid huu; have UL := Lib.hid hul
  have UC : Hid (∀ j u, us[j]? = some u → (w3.alloc (.cells #[] 26)).cell? ((⟨cb, co, none⟩ : Addr).add j) = some u) := fun j u hu => by
    rw [Addr.add_lit]; exact cell_alloc (huc j u hu) _
  have UO : Hid (∀ u ∈ us, u.oneCell' = true) := by
    intro u hu
    obtain ⟨i, hi, rfl⟩ := List.getElem_of_mem hu
    exact (huu i hi (by omega)).2
  have E0 : Hid ((w3.alloc (.cells #[] 26)).ownsRow w3.heap.size 26 1 (.slice (some ⟨bo + 1, 0, none⟩) 0 0) 0 []) := by
    have := World.ownsRow_made w3 #[] 0 (base := w3.heap.size) (e := 26) (size := 1) (by omega) (by decide) rfl
    rw [hs3] at this ⊢; exact this
  have D0 : Hid (Below w3.heap.size w3 (w3.alloc (.cells #[] 26))) := (Below.refl _ _).alloc (Nat.le_refl _) _
  have KL : Hid (∀ b, Keep (Keep M (bx + 1)) bo b → b < w3.heap.size) := by
    intro b hb
    rcases hb with (hb | hb) | hb
    · have := HMM.out b hb; have := BX.out; omega
    · omega
    · omega
  clear hk hb2 RR RB B2 HR2 S3 X3 R3 RB3 huc huu hul HG3
  go_wp2_with (first
    | (with_reducible refine wpList_store_last rfl 48 (.tmp 4) (.tmp 13) rfl st0 (st5 (.slice da n dc) (.slice ea s.wr.length ec) s.down q (.slice fa s.kept.length fc)) rfl rfl size_state rfl (st5_one _ _ _ _ _ _ _ _ _ _ _) ?_)
    | (at_builtin; refine wpList_append_any rfl (.tmp 17) (.tmp 19) 45 rfl w3.heap.size 26 i0 (.slice none 0 0) 1 24 Try.underlying45 hi hz0 hz1 hz2 rfl (by decide) (.slice (some ⟨bo + 1, 0, none⟩) 0 0) 0 [] rfl E0.out rfl (some ⟨cb, co, none⟩) n cc us rfl (fun h => by cases h) (by have := UL.out; omega) (fun ad had => by cases had; exact UC.out) UO.out (by unfold maxLen; omega) (by omega) (by simp) ?_))
  intro v1 w4 hown1 hg1 hsome1
  have hB1 : Below w3.heap.size w3 w4 := D0.out.grown hg1 (by simp) (by intro j hj; cases hj; show w3.heap.size ≤ bo + 1; omega)
  obtain ⟨gc, cap, rfl, hrow, hgc⟩ := RowOf.make KL.out hB1 (by rw [hs3]; simpa using hown1) hsome1 UL.out (sects_length s.dur n) (by intro i h1 h2; exact UU.out i h1 (by rw [sects_length] at h2; exact h2))
  have RW := Lib.hid hrow; have GC := Lib.hid hgc; have D1 := Lib.hid hB1
  clear hown1 hg1 hsome1 hrow hgc E0 UC UO UU D0 hB1 x0
  have C4 := heap_below D1.out R3'.out
  have C4' := Lib.hid C4
  obtain ⟨y0, y1, y2, y3, y4⟩ := box_cells C4
  have z := box_frozen C4
  clear C4 R3'
  go_wp2_with (fail)
  obtain ⟨w5, hw5⟩ : ∃ w5, w4.setCell ⟨bo, 0, none⟩ (.slice (some ⟨gc, 0, none⟩) n cap) = w5 := ⟨_, rfl⟩
  rw [hw5]
  have S45 : Step (fun k => k = bo) w4 (fun k => k = bo) w5 := by rw [← hw5]; exact (Step.refl (fun k => k = bo) w4).setCell (.inl rfl) _
  have hK3 : ∀ k, Keep (Keep M (bx + 1)) bo k → k < w3.heap.size := KL.out
  have hgne : gc ≠ bo := by have := GC.out; omega
  have h34 : w3.heap.size ≤ w4.heap.size := D1.out.size
  have INV : Hid (Step (Keep (Keep M (bx + 1)) bo) w3 (Keep (Keep M (bx + 1)) bo) w5 ∧ w5.heap[bx]? = some (.cells (st5 (.slice (some ⟨cb, co, none⟩) n cc) (.slice wa s.wr.length wc) false s.fuse (.slice ka s.kept.length kc)) 48 (0, 0)) ∧ w5.heap[bx + 1]? = some (.cells st0 48 (0, 0)) ∧ w5.heap[bo]? = some (.cells (st5 (.slice (some ⟨gc, 0, none⟩) n cap) (.slice ea s.wr.length ec) s.down q (.slice fa s.kept.length fc)) 48 (0, 0)) ∧ RowOf w5 (Keep (Keep M (bx + 1)) bo) w3.heap.size gc cap n (sects (flushFold s.dur (s.wr.take 0)) n)) := by
    refine ⟨(Step.of_below D1.out _).trans (S45.wide (fun k hk => .inr hk)), ?_, ?_, ?_, ?_⟩
    · exact (S45.block bx (by omega) (by omega)).trans (heap_below D1.out RB3'.out)
    · exact (S45.block (bx + 1) (by omega) (by omega)).trans (heap_below D1.out RR3.out)
    · rw [← hw5, heap_setCell_same w4 bo 0 _ _ _ C4'.out]; rfl
    · obtain ⟨us', a1, a2, a3, a4⟩ := RW.out
      refine ⟨us', ownsRow_of_block a1 (fun b hb => by cases hb; exact S45.block gc (a1.lt gc rfl).2 hgne), a2, a3, fun i b1 b2 => ⟨Bytes.step (a4 i b1 b2).1 ((S45.wide (M := fun b => b = gc ∨ b = w3.heap.size + 1 ∨ Keep (Keep M (bx + 1)) bo b) (fun k hk => .inr (.inr (.inr hk))))), (a4 i b1 b2).2⟩⟩
  have B5 : Hid (Below w.heap.size w w5) := by
    rw [← hw5]
    exact (B3.out.trans (D1.out.mono B3.out.size)).setCell (by have := BX.out; show w.heap.size ≤ bo; omega) _
  clear RW C4' S45 y0 y1 y2 y3 y4 z hw5 RB3' RR3
  go_loopw [6] (fun i wr => ∃ j : Nat, j ≤ s.wr.length ∧ i = .int .i64 j ∧ Hid (Below w.heap.size w wr) ∧ Hid (Step (Keep (Keep M (bx + 1)) bo) w3 (Keep (Keep M (bx + 1)) bo) wr ∧ wr.heap[bx]? = some (.cells (st5 (.slice (some ⟨cb, co, none⟩) n cc) (.slice wa s.wr.length wc) false s.fuse (.slice ka s.kept.length kc)) 48 (0, 0)) ∧ wr.heap[bx + 1]? = some (.cells st0 48 (0, 0)) ∧ wr.heap[bo]? = some (.cells (st5 (.slice (some ⟨gc, 0, none⟩) n cap) (.slice ea s.wr.length ec) s.down q (.slice fa s.kept.length fc)) 48 (0, 0)) ∧ RowOf wr (Keep (Keep M (bx + 1)) bo) w3.heap.size gc cap n (sects (flushFold s.dur (s.wr.take j)) n))) (fun i _ => s.wr.length - (intOf i).toNat)
  case atStart => exact ⟨0, Nat.zero_le _, rfl, B5, INV⟩
  case round =>
    clear INV B5
    obtain ⟨j, hj, rfl, BR, INV⟩ := hrel
    obtain ⟨I0, I1, I2, I3, I4⟩ := INV.out
    obtain ⟨x0, x1, x2, x3, x4⟩ := box_cells I1
    obtain ⟨y0, y1, y2, y3, y4⟩ := box_cells I3
    have hj0 : (0 : Int) ≤ (j : Int) := by omega
    have hw30 := HWR.out
    by_cases hlt : j < s.wr.length
    · obtain ⟨pb, po, u, hpa, p0, p1, hu⟩ := HP3.out.get j hlt
      subst hpa
      obtain ⟨p, hp⟩ : ∃ p, s.wr[j] = p := ⟨_, rfl⟩
      have hpo := OK.out.wr p (hp ▸ List.getElem_mem hlt)
      rw [hp] at p0 hu
      obtain ⟨k, hk⟩ : ∃ k : Nat, p.1 = (k : Int) := ⟨p.1.toNat, by omega⟩
      rw [hk] at p0
      have hkn : k < n := by omega
      obtain ⟨rr, l0, l1, hrr⟩ := I4.cell k hkn
      have FS : Hid (sects (flushFold s.dur (s.wr.take (j + 1))) n = (sects (flushFold s.dur (s.wr.take j)) n).set k p.2) := by
        have := flush_step s.dur n OK.out.dur s.wr OK.out.wr j hlt
        rw [hp, hk, Int.toNat_natCast] at this; exact this
      have hnb : ¬ Keep (Keep M (bx + 1)) bo pb := by
        obtain ⟨ao', cap', hv, -, -, -, hx⟩ := HP3.out
        cases hv
        obtain ⟨b, off, u', e, -, hm, -⟩ := hx j hlt
        cases e; exact hm
      have q0 := I0.cell (p := ⟨pb, po + j * 2, none⟩) hnb p0
      have q1 := I0.cell (p := ⟨pb, po + j * 2 + 1, none⟩) hnb p1
      have HU : Hid (Bytes wr (fun b => b = gc ∨ b = w3.heap.size + 1 ∨ Keep (Keep M (bx + 1)) bo b) u p.2) :=
        hu.step (I0.to (fun _ h => h) (fun k hk => by have := GC.out; rcases hk with hk | hk | hk; exact .inr (by omega); exact .inr (by omega); exact .inl hk))
      obtain ⟨ua, uc, rfl⟩ : ∃ ua uc, u = .slice ua 64 uc := by obtain ⟨a, c, hv, -⟩ := hu; rw [hpo.2.2] at hv; exact ⟨a, c, hv⟩
      have hj1 : (j : Int) < (s.wr.length : Int) := by omega
      have hk0 : (0 : Int) ≤ (k : Int) := by omega
      have hk1 : (k : Int) < (n : Int) := by omega
      clear I0 I1 I2 I3 I4 hu p0 p1 hp hpo hk hrr hnb
      go_wp2_with (fail)
      go_still_tail 15, (by kernel_rfl)
      go_wp2_with (fail)
      have B6 : Hid (Below w.heap.size w (wr.drew.setCell ⟨gc, k, none⟩ (.slice ua 64 uc))) := BR.out.drew.setCell (by have := GC.out; have := BX.out; show w.heap.size ≤ gc; omega) _
      have INV' : Hid (Step (Keep (Keep M (bx + 1)) bo) w3 (Keep (Keep M (bx + 1)) bo) (wr.drew.setCell ⟨gc, k, none⟩ (.slice ua 64 uc)) ∧ (wr.drew.setCell ⟨gc, k, none⟩ (.slice ua 64 uc)).heap[bx]? = some (.cells (st5 (.slice (some ⟨cb, co, none⟩) n cc) (.slice (some ⟨pb, po, none⟩) s.wr.length wc) false s.fuse (.slice ka s.kept.length kc)) 48 (0, 0)) ∧ (wr.drew.setCell ⟨gc, k, none⟩ (.slice ua 64 uc)).heap[bx + 1]? = some (.cells st0 48 (0, 0)) ∧ (wr.drew.setCell ⟨gc, k, none⟩ (.slice ua 64 uc)).heap[bo]? = some (.cells (st5 (.slice (some ⟨gc, 0, none⟩) n cap) (.slice ea s.wr.length ec) s.down q (.slice fa s.kept.length fc)) 48 (0, 0)) ∧ RowOf (wr.drew.setCell ⟨gc, k, none⟩ (.slice ua 64 uc)) (Keep (Keep M (bx + 1)) bo) w3.heap.size gc cap n (sects (flushFold s.dur (s.wr.take (j + 1))) n)) := by
        obtain ⟨I0, I1, I2, I3, I4⟩ := INV.out
        have hgc := GC.out
        have ho : ∀ b, b ≠ gc → (wr.drew.setCell ⟨gc, k, none⟩ (.slice ua 64 uc)).heap[b]? = wr.heap[b]? := fun b hb => heap_setCell_other wr.drew ⟨gc, k, none⟩ b _ hb
        refine ⟨I0.drew.setCell (.inr hgc) _, (ho bx (by omega)).trans I1, (ho (bx + 1) (by omega)).trans I2, (ho bo (by omega)).trans I3, ?_⟩
        rw [FS.out]
        exact (show RowOf wr.drew _ _ gc cap n _ from I4).put k (by omega) _ _ (Bytes.step HU.out (Step.drew (Step.refl _ wr)))
      clear INV HU FS
      go_roundw
      case rel => exact ⟨j + 1, by omega, by go_num, B6, INV'⟩
      case measure => simp [intOf]; omega
    · obtain rfl : j = s.wr.length := by omega
      have z := box_frozen I2
      have z' := box_frozen I3
      obtain ⟨t0, t1, t2, t3, t4⟩ := box_cells I2
      have I0' := Lib.hid I0; have I2' := Lib.hid I2; have I3' := Lib.hid I3; have I4' := Lib.hid I4
      clear I0 I1 I2 I3 I4 INV x0 x2 x3 x4
      go_wp2_with (fail)
      obtain ⟨w7, hw7⟩ : ∃ w7, wr.setCell ⟨bo, 1, none⟩ (.slice none 0 0) = w7 := ⟨_, rfl⟩
      rw [hw7]
      have S67 : Step (fun k => k = bo) wr (fun k => k = bo) w7 := by rw [← hw7]; exact (Step.refl (fun k => k = bo) wr).setCell (.inl rfl) _
      have D7 : Below w.heap.size w w7 := by rw [← hw7]; exact BR.out.setCell (by have := BX.out; show w.heap.size ≤ bo; omega) _
      have C7 : w7.heap[bx + 1]? = some (.cells st0 48 (0, 0)) := (S67.block _ (by have := I2'.out; rw [Array.getElem?_eq_some_iff] at this; exact this.1) (by omega)).trans I2'.out
      obtain ⟨w9, hw9, P9, Q9, S9⟩ := put5 (w0 := w) (c0 := .slice (some ⟨gc, 0, none⟩) n cap) (c1 := .slice none 0 0) (c2 := .bool s.down) (c3 := .int .i64 q) (c4 := .slice fa s.kept.length fc) C7 D7 (by have := BX.out; omega)
      rw [hw9]
      obtain ⟨z0, z1, z2, z3, z4⟩ := box_cells P9
      clear y0 y1 y2 y3 y4 t0 t1 t2 t3 t4 z z' hw9 hw7 x1
      refine bodyPost_ret (v := .tuple #[.agg #[.slice (some ⟨gc, 0, none⟩) n cap, .slice none 0 0, .bool s.down, .int .i64 q, .slice fa s.kept.length fc], .int .i64 0]) (by simp [results, Try.results32, go_sem, z0, z1, z2, z3, z4]) rfl ?_
      rw [HQ.out]
      have h79 : Step (Keep (Keep M (bx + 1)) bo) wr M w9 :=
        ((S67.wide (fun k hk => .inr hk)).trans (S9.wide (fun k hk => .inl (.inr hk)))).to (fun _ h => h) (fun k hk => .inl (.inl (.inl hk)))
      have hst : Step (Keep (Keep M (bx + 1)) bo) w3 M w9 := I0'.out.trans h79
      have hM' : ∀ k, M k → k < bx := fun k hk => by have := HMM.out k hk; have := BX.out; omega
      have hgc := GC.out
      have hgrid : Grid wr (Keep (Keep M (bx + 1)) bo) (.slice (some ⟨gc, 0, none⟩) n cap) (sects (flushFold s.dur s.wr) n) := by
        have := I4'.out
        rw [List.take_length] at this
        exact this.grid (fun hm => by have := KL.out gc hm; omega)
      exact ⟨_, rfl, ⟨_, _, _, by rw [HDN.out], hgrid.step h79, Pend.nil _ _, HR3.out.ints.2.2.step hst⟩, Q9⟩

end Go.Proofs.Ythnolhcknhhipaa
