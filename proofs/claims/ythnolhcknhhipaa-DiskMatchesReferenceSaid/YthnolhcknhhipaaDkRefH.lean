/-
  The reference's Write, where it goes through.
  Condition: fewer than 2^30 writes are pending.
-/
import Derived.Test.YthnolhcknhhipaaDkRefG
namespace Go.Proofs.Ythnolhcknhhipaa
set_option linter.unusedVariables false
set_option linter.unusedSimpArgs false
open Go.RowKit

theorem Step.keep {M : Nat → Prop} {w w' : World} {b : Nat} (hb : Below w.heap.size w w') (hl : w.heap.size ≤ b) : Step M w (Keep M b) w' :=
  (Step.of_below hb M).to (fun _ h => h) (fun k hk => hk.elim .inl (fun e => .inr (by omega)))

theorem own_type {w : World} {base size n : Nat} {e : TypeId} {v : Value} {xs : List Value} (h : w.ownsRow base e size v n xs) {g : Nat} (hg : v.ownBlock = some g) : ∃ cs, w.heap[g]? = some (.cells cs e (0, 0)) := by
  rcases h.2 with ⟨rfl, -⟩ | ⟨g', cap', cur, rfl, -, hh, -⟩
  · simp [Value.ownBlock] at hg
  · have : g' = g := by simpa [Value.ownBlock] using hg
    subst this
    exact ⟨cur, hh⟩

set_option maxRecDepth 100000 in
set_option maxHeartbeats 2000000 in
theorem refwrite_on (w : World) (M : Nat → Prop) (hM : ∀ b, M b → b < w.heap.size) (n : Nat) (v u : Value) (s : DS) (h : RefAt w M n v s) (ok : s.Ok n) (hwr : s.wr.length < 1073741824) (x : Int) (data : List Int) (hu : Bytes w NoB u data)
    (h0 : 0 ≤ x) (h1 : x < n) (hdl : data.length = 64) (hdn : s.down = false) (hf : s.fuse ≠ 1) :
    Calls Try.prog 34 #[v, .int .i64 x, u] w fun e w' => ∃ r, e = .returned (.tuple #[r, .int .i64 0]) ∧ RefAt w' M n r { s with fuse := max (s.fuse - 1) 0, wr := s.wr ++ [(x, data)] } ∧ Below w.heap.size w w' := by
  obtain ⟨ca, cc, wa, wc, ka, kc, rfl⟩ := h.shapes
  obtain ⟨w0, bx, hw0q, hbx, hbx1, hsz, hB, hB1, hb0⟩ := @ref_entry w (.slice ca n cc) (.slice wa s.wr.length wc) (.slice ka s.kept.length kc) s.down s.fuse
  have HH := Lib.hid h
  have HR : Hid (RefAt w0 (Keep M (bx + 1)) n (.agg #[.slice ca n cc, .slice wa s.wr.length wc, .bool s.down, .int .i64 s.fuse, .slice ka s.kept.length kc]) s) := h.keep hb0 (by omega)
  have HM : Hid (∀ b, Keep M (bx + 1) b → b < w0.heap.size) := Keep.lt (fun k hk => Nat.lt_of_lt_of_le (hM k hk) hb0.size) (by omega)
  have HMM := Lib.hid hM
  obtain ⟨x0, x1, x2, x3, x4⟩ := box_cells hB
  obtain ⟨y0, y1, y2, y3, y4⟩ := box_cells hB1
  have z := box_frozen hB1
  have B0 := Lib.hid hb0; have OK := Lib.hid ok; have R0 := Lib.hid hB; have R1 := Lib.hid hB1; have BX := Lib.hid hbx; have HWR := Lib.hid hwr; have SZ := Lib.hid hsz
  have hn := ok.hi
  obtain ⟨ua, uc, rfl⟩ : ∃ ua uc, u = .slice ua data.length uc := by obtain ⟨a, c, e, -⟩ := hu; exact ⟨a, c, e⟩
  have HU := Lib.hid hu
  clear h hB hb0 ok hB1 hwr hM hu hsz
  have HDN := Lib.hid hdn
  have HDL := Lib.hid hdl
  have HF := Lib.hid hf
  obtain ⟨i0, hi, hz0, hz1, hz2⟩ := info_parts infoprefs
  obtain ⟨i1, hi', hy0, hy1, hy2⟩ := info_parts infobyte
  obtain ⟨b2, o2, c2, hue, hc2, hm2, hx2⟩ := HU.out.cells (by intro h; rw [h] at hdl; simp at hdl)
  rw [hdl] at hue hc2 HU ⊢
  cases hue
  have X2 := Lib.hid hx2; clear hx2
  rw [hdn] at x2 hw0q hbx1 HR R0 ⊢
  have c3 : (((64 : Nat) : Int) != 64) = false := rfl
  clear hdn hdl hf
  go_enter Try.func34, Try.ntmps34
  go_wp2_with (fail)
  refine (refburn_on w0 _ HM.out n _ s HR.out OK.out HF.out).mono ?_
  rintro e w2 ⟨r, rfl, hr, hb2⟩
  obtain ⟨q, hq⟩ : ∃ q, max (s.fuse - 1) 0 = q := ⟨_, rfl⟩
  rw [hq] at hr
  have HQ := Lib.hid hq; clear hq
  obtain ⟨da, dc, ea, ec, fa, fc, rfl⟩ := hr.shapes
  simp only at hr
  have HR2 := Lib.hid hr
  have B2 := Lib.hid (B0.out.trans (hb2.mono B0.out.size))
  have RR := Lib.hid (heap_below hb2 R1.out)
  have RB := Lib.hid (heap_below hb2 R0.out)
  clear x0 x1 x2 x3 x4 y0 y1 y2 y3 y4 z hr hw0q hbx1
  obtain ⟨w3, bo, hw3q, hbo, R3, S3, X3⟩ := out_box w2 (.slice da n dc) (.slice ea s.wr.length ec) (.slice fa s.kept.length fc) s.down q
  have hs3 : w3.heap.size = bo + 1 := by rw [← hw3q, ← hbo]; simp
  have hbo2 : bx + 1 < bo := by have h1 := hb2.size; have h2 := SZ.out; omega
  have RR3 : Hid (w3.heap[bx + 1]? = some (.cells st0 48 (0, 0))) := (X3 _ (by omega)).trans RR.out
  have RB3 := (X3 bx (by omega)).trans RB.out
  have x1 := cell_alloc (box_cells RB3).2.1 (.cells #[] 72)
  have B3 : Hid (Below w.heap.size w w3) := B2.out.trans (S3.mono B2.out.size)
  have HR3 : Hid (RefAt w3 (Keep (Keep M (bx + 1)) bo) n (.agg #[.slice da n dc, .slice ea s.wr.length ec, .bool s.down, .int .i64 q, .slice fa s.kept.length fc]) { s with fuse := q }) := HR2.out.step (Step.keep S3 (by omega))
  have HP3 : Pend w3 (Keep (Keep M (bx + 1)) bo) (.slice wa s.wr.length wc) s.wr := (HR.out.ints.2.1.step (Step.of_below hb2 _)).step (Step.keep S3 (by omega))
  obtain ⟨us, hul, -, hw0, huc, huu⟩ := HP3.us
  have R3' := Lib.hid R3
  have UU := Lib.hid huu; have UL := Lib.hid hul
  have UC : Hid (∀ ad, wa = some ad → ∀ j u, (pc s.wr us)[j]? = some u → (w3.alloc (.cells #[] 72)).cell? (ad.add j) = some u) := fun ad had j u hu => cell_alloc (huc ad had j u hu) _
  have UO : Hid (∀ u ∈ pc s.wr us, u.oneCell' = true) := pc_one _ _ hul (fun i h1 => (huu i h1 (by omega)).2)
  have UN := Lib.hid hw0
  have E0 : Hid ((w3.alloc (.cells #[] 72)).ownsRow (bo + 1) 72 2 (.slice (some ⟨bo + 1, 0, none⟩) 0 0) 0 []) := by
    have := World.ownsRow_made w3 #[] 0 (base := bo + 1) (e := 72) (size := 2) (by omega) (by decide) rfl
    rw [hs3] at this; exact this
  have D0 : Hid (Below w3.heap.size w3 (w3.alloc (.cells #[] 72))) := (Below.refl _ _).alloc (Nat.le_refl _) _
  have HXC : Hid (∀ j u, (data.map (Value.int .u8))[j]? = some u → w3.cell? ⟨b2, o2 + j, none⟩ = some u) := fun j u hu => cell_below S3 (cell_below hb2 (cell_below B0.out (X2.out j u hu)))
  clear hb2 RR RB B2 HR2 S3 X3 R3 RB3 huc huu hul hw0 HP3
  go_wp2_with (first
    | (with_reducible refine wpList_store_last rfl 48 (.tmp 8) (.tmp 31) rfl st0 (st5 (.slice da n dc) (.slice ea s.wr.length ec) s.down q (.slice fa s.kept.length fc)) rfl rfl size_state rfl (st5_one _ _ _ _ _ _ _ _ _ _ _) ?_)
    | (at_builtin; refine wpList_append_any rfl (.tmp 35) (.tmp 37) 46 rfl (bo + 1) 72 i0 (.agg #[.int .i64 0, .slice none 0 0]) 2 32 Try.underlying46 hi hz0 hz1 hz2 rfl (by decide) (.slice (some ⟨bo + 1, 0, none⟩) 0 0) 0 [] rfl E0.out rfl wa s.wr.length wc (pc s.wr us) rfl UN.out (pc_length _ _ UL.out) UC.out UO.out (by have := HWR.out; unfold maxLen; omega) (by have := HWR.out; omega) (by simp; omega) ?_))
  intro v1 w4 hown1 hg1 hsome1
  obtain ⟨g1, cap1, rfl, -, -, hg1l, hg1h⟩ := own_some hown1 hsome1
  have O1 : Hid (w4.ownsRow (bo + 1) 72 2 (.slice (some ⟨g1, 0, none⟩) s.wr.length cap1) s.wr.length (pc s.wr us)) := by show World.ownsRow _ _ _ _ _ _ _; simpa using hown1
  have D1 : Hid (Below w3.heap.size w3 w4) := D0.out.grown hg1 (by simp) (by intro j hj; cases hj; show w3.heap.size ≤ bo + 1; omega)
  have E1 : Hid ((w4.alloc (.cells #[] 5)).ownsRow (bo + 1) 5 1 (.slice (some ⟨w4.heap.size, 0, none⟩) 0 0) 0 []) := World.ownsRow_made w4 #[] 0 (by omega) (by decide) rfl
  have N1 : Hid (∀ j u, (data.map (Value.int .u8))[j]? = some u → (w4.alloc (.cells #[] 5)).cell? ((⟨b2, o2, none⟩ : Addr).add j) = some u) := by
    intro j u hu
    rw [Addr.add_lit]
    exact cell_alloc (cell_below D1.out (HXC.out j u hu)) _
  have D1' : Hid (Below w3.heap.size w3 (w4.alloc (.cells #[] 5))) := D1.out.alloc D1.out.size _
  have G1 : Hid (g1 < w4.heap.size) := hg1h
  clear hown1 hg1 hsome1 hg1l hg1h E0 D0 UC UN x1
  go_wp2_with (at_builtin; refine wpList_append_any rfl (.tmp 40) (.tmp 41) 26 rfl (bo + 1) 5 i1 (.int .u8 0) 1 1 Try.underlying26 hi' hy0 hy1 hy2 rfl (by decide) (.slice (some ⟨w4.heap.size, 0, none⟩) 0 0) 0 [] rfl E1.out rfl (some ⟨b2, o2, none⟩) 64 uc (data.map (.int .u8)) rfl (fun h => by cases h) (by have := HDL.out; simp; omega) (fun ad had => by cases had; exact N1.out) (ints_oneCell _ _) (by unfold maxLen; omega) (by omega) (by have := D1.out.size; simp; omega) ?_)
  intro v2 w5 hown2 hg2 hsome2
  obtain ⟨g2, cap2, rfl, hg2c, hg2m, hg2l, hg2h⟩ := own_some hown2 hsome2
  have O2 : Hid (w5.ownsRow (bo + 1) 5 1 (.slice (some ⟨g2, 0, none⟩) 64 cap2) 64 (data.map (.int .u8))) := by show World.ownsRow _ _ _ _ _ _ _; simpa using hown2
  have D2 : Hid (Below w3.heap.size w3 w5) := D1'.out.grown hg2 D1'.out.size (by intro j hj; cases hj; show w3.heap.size ≤ w4.heap.size; exact D1.out.size)
  have D12 : Hid (Below w4.heap.size w4 w5) := ((Below.refl _ _).alloc (Nat.le_refl _) _).grown hg2 (by simp) (by intro j hj; cases hj; exact Nat.le_refl _)
  have O1' : Hid (w5.ownsRow (bo + 1) 72 2 (.slice (some ⟨g1, 0, none⟩) s.wr.length cap1) s.wr.length (pc s.wr us)) := ownsRow_below D12.out O1.out
  have G2 : Hid (g1 < w5.heap.size) := Nat.lt_of_lt_of_le G1.out D12.out.size
  have G3 : Hid (g2 < w5.heap.size) := hg2h
  clear hown2 hg2 hsome2 hg2l hg2h E1 N1 D1' O1
  have O3 : Hid ((w5.alloc (.cells #[.int .i64 x, .slice (some ⟨g2, 0, none⟩) 64 cap2] 72)).ownsRow (bo + 1) 72 2 (.slice (some ⟨g1, 0, none⟩) s.wr.length cap1) s.wr.length (pc s.wr us)) := ownsRow_below ((Below.refl _ _).alloc (Nat.le_refl _) _) O1'.out
  have N3 : Hid (∀ j u, ([.int .i64 x, .slice (some ⟨g2, 0, none⟩) 64 cap2] : List Value)[j]? = some u → (w5.alloc (.cells #[.int .i64 x, .slice (some ⟨g2, 0, none⟩) 64 cap2] 72)).cell? ((⟨w5.heap.size, 0, none⟩ : Addr).add j) = some u) := by
    intro j u hu
    rw [Addr.add_lit, World.cell?_alloc_at _ _ _ _ rfl]
    simpa using hu
  have P3 : Hid (∀ u ∈ ([.int .i64 x, .slice (some ⟨g2, 0, none⟩) 64 cap2] : List Value), u.oneCell' = true) := by
    intro u hu
    simp at hu
    rcases hu with rfl | rfl <;> rfl
  go_wp2_with (at_builtin; refine wpList_append_any rfl (.tmp 38) (.tmp 44) 46 rfl (bo + 1) 72 i0 (.agg #[.int .i64 0, .slice none 0 0]) 2 32 Try.underlying46 hi hz0 hz1 hz2 rfl (by decide) (.slice (some ⟨g1, 0, none⟩) s.wr.length cap1) s.wr.length (pc s.wr us) rfl O3.out rfl (some ⟨w5.heap.size, 0, none⟩) 1 1 [.int .i64 x, .slice (some ⟨g2, 0, none⟩) 64 cap2] rfl (fun h => by cases h) rfl (fun ad had => by cases had; exact N3.out) P3.out (by have := HWR.out; unfold maxLen; omega) (by have := HWR.out; omega) (by have := D2.out.size; simp; omega) ?_)
  intro v3 w6 hown3 hg3 hsome3
  obtain ⟨g3, cap3, rfl, -, -, hg3l, hg3h⟩ := own_some hown3 hsome3
  have D3 : Hid (Below w3.heap.size w3 w6) := (D2.out.alloc D2.out.size _).grown hg3 (by have := D2.out.size; simp; omega) (by intro j hj; cases hj; show w3.heap.size ≤ g1; have := (O3.out.lt g1 rfl).1; omega)
  have O4 := Lib.hid hown3
  have G5 : Hid (w5.grownBy w6 (some g1)) := grown_trans (World.grownBy_alloc w5 _ _) hg3
  clear hown3 hg3 hsome3 O3 N3 P3
  have C6 := heap_below D3.out R3'.out
  have C7 := heap_below D3.out RR3.out
  have C6' := Lib.hid C6; have C7' := Lib.hid C7
  obtain ⟨y0, y1, y2, y3, y4⟩ := box_cells C6
  obtain ⟨t0, t1, t2, t3, t4⟩ := box_cells C7
  have z := box_frozen C6
  have z' := box_frozen C7
  clear C6 C7
  go_wp2_with (fail)
  obtain ⟨w7, hw7⟩ : ∃ w7, w6.setCell ⟨bo, 1, none⟩ (.slice (some ⟨g3, 0, none⟩) (s.wr.length + 1) cap3) = w7 := ⟨_, rfl⟩
  rw [hw7]
  have S67 : Step (fun k => k = bo) w6 (fun k => k = bo) w7 := by rw [← hw7]; exact (Step.refl (fun k => k = bo) w6).setCell (.inl rfl) _
  have D7 : Below w.heap.size w w7 := by
    rw [← hw7]
    have h1 : Below w.heap.size w w6 := B3.out.trans (D3.out.mono B3.out.size)
    exact h1.setCell (by have := BX.out; show w.heap.size ≤ bo; omega) _
  have C7'' : w7.heap[bx + 1]? = some (.cells st0 48 (0, 0)) := (S67.block _ (by have := C7'.out; rw [Array.getElem?_eq_some_iff] at this; exact this.1) (by omega)).trans C7'.out
  obtain ⟨w9, hw9, P9, Q9, S9⟩ := put5 (w0 := w) (c0 := .slice da n dc) (c1 := .slice (some ⟨g3, 0, none⟩) (s.wr.length + 1) cap3) (c2 := .bool s.down) (c3 := .int .i64 q) (c4 := .slice fa s.kept.length fc) C7'' D7 (by have := BX.out; omega)
  rw [hw9]
  obtain ⟨z0, z1, z2, z3, z4⟩ := box_cells P9
  clear y0 y1 y2 y3 y4 t0 t1 t2 t3 t4 z z' hw9 hw7
  refine bodyPost_ret (v := .tuple #[.agg #[.slice da n dc, .slice (some ⟨g3, 0, none⟩) (s.wr.length + 1) cap3, .bool s.down, .int .i64 q, .slice fa s.kept.length fc], .int .i64 0]) (by simp [results, Try.results34, go_sem, z0, z1, z2, z3, z4]) rfl ?_
  rw [HQ.out]
  have hst : Step (Keep (Keep M (bx + 1)) bo) w3 M w9 :=
    (((Step.of_below D3.out (Keep (Keep M (bx + 1)) bo)).trans (S67.wide (fun k hk => .inr hk))).trans (S9.wide (fun k hk => .inl (.inr hk)))).to (fun _ h => h) (fun k hk => .inl (.inl (.inl hk)))
  have hM' : ∀ k, M k → k < bx := fun k hk => by have := HMM.out k hk; have := BX.out; omega
  have g3l := (O4.out.lt g3 rfl).1
  have g2l := (O2.out.lt g2 rfl).1
  have hne : g1 ≠ g2 := by
    intro e
    obtain ⟨cs, hcs⟩ := own_type O1'.out rfl
    obtain ⟨cs', hcs'⟩ := own_type O2.out rfl
    rw [e, hcs'] at hcs
    injection hcs with h1
    injection h1 with h2 h3
    exact absurd h3 (by decide)
  have keep : ∀ k, bo < k → k < w6.heap.size → w9.heap[k]? = w6.heap[k]? := fun k hk hl => (S9.block k (Nat.lt_of_lt_of_le hl S67.size) (by omega)).trans (S67.block k hl (by omega))
  have own3 : w9.ownsRow (bo + 1) 72 2 (.slice (some ⟨g3, 0, none⟩) (s.wr.length + 1) cap3) (s.wr.length + 1) (pc s.wr us ++ [.int .i64 x, .slice (some ⟨g2, 0, none⟩) 64 cap2]) :=
    ownsRow_of_block O4.out (fun b hb => by cases hb; exact keep g3 (by omega) (O4.out.lt g3 rfl).2)
  have own2 : w9.ownsRow (bo + 1) 5 1 (.slice (some ⟨g2, 0, none⟩) 64 cap2) 64 (data.map (.int .u8)) :=
    ownsRow_of_block O2.out (fun b hb => by cases hb; exact (keep g2 (by omega) (Nat.lt_of_lt_of_le G3.out G5.out.size)).trans (G5.out.block g2 G3.out (fun e => hne (by cases e; rfl))))
  have hg := HR3.out.ints
  refine ⟨_, rfl, ⟨_, _, _, by rw [HDN.out], hg.1.step hst, ?_, hg.2.2.step hst⟩, Q9⟩
  have hul := UL.out
  have hb2 : Bytes w9 M (.slice (some ⟨g2, 0, none⟩) 64 cap2) data := bytes_of_own own2 HDL.out (fun b hb hm => by cases hb; have := hM' g2 hm; omega)
  have hp := pend_of_own (M := M) (l := s.wr ++ [(x, data)]) (us := us ++ [.slice (some ⟨g2, 0, none⟩) 64 cap2]) (by rw [pc_snoc _ _ hul]; simpa using own3) (by simp [hul]) (fun b hb hm => by cases hb; have := hM' g3 hm; omega) (fun i h1 h2 => by
    rcases Nat.lt_or_ge i s.wr.length with hi | hi
    · have hi' : i < us.length := by omega
      rw [List.getElem_append_left hi', List.getElem_append_left hi]
      exact (UU.out i hi' hi).1.step hst
    · obtain rfl : i = s.wr.length := by simp at h2; omega
      rw [List.getElem_append_right (by omega), List.getElem_append_right (by omega)]
      simpa [hul] using hb2)
  simpa using hp

end Go.Proofs.Ythnolhcknhhipaa
