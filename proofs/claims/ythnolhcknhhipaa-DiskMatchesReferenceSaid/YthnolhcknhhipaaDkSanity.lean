/-
  The chapter's examples: sanity answers true.
  No condition.
-/
import Derived.Test.YthnolhcknhhipaaDkPrep
import Derived.Deep.RegionLawGrows
namespace Go.Proofs.Ythnolhcknhhipaa
set_option linter.unusedVariables false
set_option linter.unusedSimpArgs false
open Go.RowKit

/-- The disk of the examples, from call to call. -/
def y0 : DS := DS.new 2
def y1 : DS := (y0.write 0 (fill 97)).2
def y2 : DS := y1.flush.2
def y3 : DS := (y2.write 0 (fill 98)).2
def y4 : DS := y3.crash [3]
def y5 : DS := { y4 with down := false }
def y6 : DS := { y5 with fuse := max 2 0, kept := [64] }
def y7 : DS := (y6.write 1 (fill 97)).2
def y8 : DS := y7.flush.2
def y9 : DS := { y8 with down := false }

theorem o0 : y0.Ok 2 := DS.new_ok (by omega) (by omega)
theorem o1 : y1.Ok 2 := DS.write_ok o0 0 (by omega) (by omega) _ (fill_length _)
theorem o2 : y2.Ok 2 := DS.flush_ok o1
theorem o3 : y3.Ok 2 := DS.write_ok o2 0 (by omega) (by omega) _ (fill_length _)
theorem o4 : y4.Ok 2 := DS.crash_ok o3 _
theorem o5 : y5.Ok 2 := DS.power_ok o4
theorem o6 : y6.Ok 2 := DS.fuse_ok o5 2 (by omega) _ (by simp)
theorem o7 : y7.Ok 2 := DS.write_ok o6 1 (by omega) (by omega) _ (fill_length _)
theorem o8 : y8.Ok 2 := DS.flush_ok o7
theorem o9 : y9.Ok 2 := DS.power_ok o8

theorem e1 : (y0.write 0 (fill 97)).1 = 0 := by kernel_rfl
theorem e2 : y1.flush.1 = 0 := by kernel_rfl
theorem e3 : (y2.write 0 (fill 98)).1 = 0 := by kernel_rfl
theorem e7 : (y6.write 1 (fill 97)).1 = 0 := by kernel_rfl
theorem e8 : y7.flush.1 = 340 := by kernel_rfl
theorem dn4 : y4.down = true := by kernel_rfl
theorem dn9 : y9.wr.length = 0 := by kernel_rfl
theorem want5 : y5.read 0 = List.replicate 3 98 ++ List.replicate 61 97 := by kernel_rfl
theorem want9 : y9.read 1 = fill 97 := by kernel_rfl
theorem w0l : y0.wr.length = 0 := by kernel_rfl
theorem w2l : y2.wr.length = 0 := by kernel_rfl
theorem w6l : y6.wr.length = 0 := by kernel_rfl

/-- One whole number, laid in a row of its own. -/
theorem ints_one {w : World} {M : Nat → Prop} (hM : ∀ k, M k → k < w.heap.size) (x : Int) : Ints (w.alloc (.cells #[.int .i64 x] 3)) M (.slice (some ⟨w.heap.size, 0, none⟩) 1 1) [x] := by
  refine ⟨_, 1, rfl, Nat.le_refl _, by unfold maxLen; omega, (fun h => by cases h), .inr ⟨_, 0, rfl, by simp, fun h => by have := hM _ h; omega, fun j u hu => ?_⟩⟩
  have hj : j = 0 := by have := (List.getElem?_eq_some_iff.1 hu).1; simp at this; omega
  subst hj
  rw [World.cell?_alloc_at _ _ _ _ rfl]
  simpa using hu

theorem block_head {w : World} {b n : Nat} {x : Int} (h : ByteBlock w b (fill x)) (hn : n ≤ 64) : ∀ j u, ((List.replicate n x).map (Value.int .u8))[j]? = some u → w.cell? ((⟨b, 0, none⟩ : Addr).add j) = some u := by
  intro j u hu
  have hj : j < n := by simpa using (List.getElem?_eq_some_iff.1 hu).1
  rw [Addr.add_lit, Nat.zero_add, h.cell j (by rw [fill_length]; omega), ← hu]
  simp only [fill, List.getElem_replicate, List.getElem?_map, List.getElem?_replicate, if_pos hj]
  rfl

set_option maxHeartbeats 2000000 in
theorem sanity_any (w : World) : Calls Try.prog 10 #[] w fun e w' => e = .returned (.bool true) ∧ Below w.heap.size w w' := by
  have D := Lib.hid (Disks.start w)
  have S := Lib.hid (Step.refl NoB w)
  go_enter Try.func10, Try.ntmps10
  -- the disk
  go_wp2_with (fail)
  refine (law_new D.out 2 (by omega) (by omega)).mono ?_
  rintro e w1 ⟨g, rfl, M1, hd, hs⟩
  have D1 : Hid (Disks w1 w.heap.size M1 [(g, y0)]) := hd
  have S1 := Lib.hid hs
  clear hd hs D S
  -- a
  go_wp2_with (fail)
  refine (law_filled D1.out 97).mono ?_
  rintro e w2 ⟨b2, rfl, hd, hs, hb, hn⟩
  have D2 := Lib.hid hd; have S2 := Lib.hid (S1.out.trans hs); have B2 := Lib.hid (hb.bytes64 hn (fill_length _))
  clear hd hs hb hn D1 S1
  go_wp2_with (fail)
  refine (law_write D2.out 0 rfl o0 0 (by omega) (by omega) _ (fill 97) (fill_length _) B2.out (by rw [w0l]; omega)).mono ?_
  rw [e1]
  rintro e w3 ⟨rfl, M3, hd, hs⟩
  have D3 : Hid (Disks w3 w.heap.size M3 [(g, y1)]) := hd
  have S3 := Lib.hid (S2.out.trans hs)
  clear hd hs D2 S2 B2
  -- b
  go_wp2_with (fail)
  refine (law_flush D3.out 0 rfl o1).mono ?_
  rw [e2]
  rintro e w4 ⟨rfl, M4, hd, hs⟩
  have D4 : Hid (Disks w4 w.heap.size M4 [(g, y2)]) := hd
  have S4 := Lib.hid (S3.out.trans hs)
  clear hd hs D3 S3
  -- c
  go_wp2_with (fail)
  refine (law_filled D4.out 98).mono ?_
  rintro e w5 ⟨b5, rfl, hd, hs, hb, hn⟩
  have D5 := Lib.hid hd; have S5 := Lib.hid (S4.out.trans hs); have B5 := Lib.hid (hb.bytes64 hn (fill_length _))
  clear hd hs hb hn D4 S4
  go_wp2_with (fail)
  refine (law_write D5.out 0 rfl o2 0 (by omega) (by omega) _ (fill 98) (fill_length _) B5.out (by rw [w2l]; omega)).mono ?_
  rw [e3]
  rintro e w6 ⟨rfl, M6, hd, hs⟩
  have D6 : Hid (Disks w6 w.heap.size M6 [(g, y3)]) := hd
  have S6 := Lib.hid (S5.out.trans hs)
  clear hd hs D5 S5 B5
  -- the crash
  have hal6 : Hid (Below w6.heap.size w6 (w6.alloc (.cells #[.int .i64 3] 3))) := (Below.refl _ _).alloc (Nat.le_refl _) _
  go_wp2_with (fail)
  refine (law_crash (D6.out.pure hal6.out).1 0 rfl o3 _ [3] (ints_one (fun k hk => (D6.out.2.1 k hk).2) 3)).mono ?_
  rintro e w7 ⟨rfl, M7, hd, hs⟩
  have D7 : Hid (Disks w7 w.heap.size M7 [(g, y4)]) := hd
  have S7 := Lib.hid ((S6.out.trans (D6.out.pure hal6.out).2).trans hs)
  clear hd hs D6 S6 hal6
  -- without power
  go_wp2_with (fail)
  refine (law_read_down D7.out 0 rfl o4 0 (by omega) (by omega) dn4).mono ?_
  rintro e w' ⟨rfl, rfl⟩
  -- power
  go_wp2_with (fail)
  refine (law_power D7.out 0 rfl).mono ?_
  rintro e w8 ⟨rfl, M8, hd, hs⟩
  have D8 : Hid (Disks w8 w.heap.size M8 [(g, y5)]) := hd
  have S8 := Lib.hid (S7.out.trans hs)
  clear hd hs D7 S7
  go_wp2_with (fail)
  refine (law_read D8.out 0 rfl o5 0 (by omega) (by omega) rfl).mono ?_
  rintro e w9 ⟨b9, rfl, hd, hs, hb, -, hn⟩
  have D9 := Lib.hid hd; have S9 := Lib.hid (S8.out.trans hs)
  have T9 : Hid (Bytes w9 M8 (.slice (some ⟨b9, 0, none⟩) 64 64) (y5.read 0)) := hb.bytes64 hn (DS.read_length o5 (by decide))
  clear hd hs hb hn D8 S8
  -- what is wanted
  go_wp2_with (fail)
  have Dd : Hid (Disks w9.drew w.heap.size M8 [(g, y5)]) := D9.out.drew
  obtain ⟨i0, hi, hz0, hz1, hz2⟩ := info_parts infobyte
  go_region_law (first
    | ((with_reducible refine step_append_grows (by rfl) (.tmp 51) (.tmp 53) 26 (by rfl) 5 i0 (.int .u8 0) 1 1 Try.underlying26 hi hz0 hz1 hz2 rfl (by decide) (some ⟨ba, 0, none⟩) 3 3 ((List.replicate 3 (98 : Int)).map (.int .u8)) ?g0 ?g1 ?g2 ?g3 ⟨bb, 0, none⟩ 61 64 ((List.replicate 61 (97 : Int)).map (.int .u8)) ?g4 ?g5 ?g6 ?g7 ?g8 ?g9 ?g10 ?g11); (case g0 => rfl); (case g1 => simp); (case g2 => simp); (case g3 => (rintro b hb; cases hb; exact block_head (BA.out.step SB.out NA.out) (by decide))); (case g4 => rfl); (case g5 => simp); (case g6 => exact block_head BB.out (by decide)); (case g7 => exact ints_oneCell _ _); (case g8 => decide); (case g9 => (unfold maxLen; decide)); (case g10 => decide); intro v' wc hown hgrow; obtain ⟨a3, c3, rfl, -⟩ := ownsRow_shape hown)
    | (go_simp; go_at_call 15; (with_reducible refine (law_filled Dd.out 98).mono ?_); rintro e wa ⟨ba, rfl, hda, hsa, hba, hna⟩; have DA := Lib.hid hda; have SA := Lib.hid hsa; have BA := Lib.hid hba; have NA := Lib.hid hna; clear hda hsa hba hna)
    | (go_simp; go_at_call 15; (with_reducible refine (law_filled DA.out 97).mono ?_); rintro e wb ⟨bb, rfl, hdb, hsb, hbb, hnb⟩; have DB := Lib.hid hdb; have SB := Lib.hid hsb; have BB := Lib.hid hbb; have NB := Lib.hid hnb; clear hdb hsb hbb hnb))
  have SC : Hid (Step NoB w M8 wc) := ((((S9.out.drew).trans SA.out).trans SB.out).grown hgrow (by simp))
  have DC : Hid (Disks wc w.heap.size M8 [(g, y5)]) := (DB.out.pure ((Below.refl _ _).grown hgrow (Nat.le_refl _) (by simp))).1
  have TC : Hid (Bytes wc M8 (.slice (some ⟨b9, 0, none⟩) 64 64) (y5.read 0)) := ((T9.out.step (Step.drew (Step.refl M8 w9))).step (SA.out.trans SB.out)).step (Step.of_below ((Below.refl _ _).grown hgrow (Nat.le_refl _) (by simp)) M8)
  have WC : Hid (Bytes wc M8 (.slice a3 64 c3) (List.replicate 3 98 ++ List.replicate 61 97)) := bytes_of_own (n := 64) (by simpa using hown) (by simp) (fun b e hm => by have := (hown.lt b e).1; have := (DB.out.2.1 b hm).2; omega)
  clear hown hgrow DA SA BA NA DB SB BB NB Dd D9 S9 T9
  clear hi hz0 hz1 hz2
  -- the fuse
  have halc : Hid (Below wc.heap.size wc (wc.alloc (.cells #[.int .i64 64] 3))) := (Below.refl _ _).alloc (Nat.le_refl _) _
  go_wp2_with (fail)
  refine (law_fuse (DC.out.pure halc.out).1 0 rfl 2 _ [64] (ints_one (fun k hk => (DC.out.2.1 k hk).2) 64) (by simp)).mono ?_
  rintro e w10 ⟨rfl, M10, hd, hs⟩
  have D10 : Hid (Disks w10 w.heap.size M10 [(g, y6)]) := hd
  have hs' : Step M8 wc M10 w10 := (DC.out.pure halc.out).2.trans hs
  have S10 := Lib.hid (SC.out.trans hs')
  have T10 := Lib.hid (TC.out.step hs')
  have W10 := Lib.hid (WC.out.step hs')
  clear hd hs hs' DC SC TC WC halc
  -- writes that are refused
  go_wp2_with (fail)
  refine (law_filled D10.out 97).mono ?_
  rintro e w11 ⟨b11, rfl, hd, hs, -, -⟩
  have D11 := Lib.hid hd; have S11 := Lib.hid (S10.out.trans hs); have T11 := Lib.hid (T10.out.step hs); have W11 := Lib.hid (W10.out.step hs)
  clear hd hs D10 S10 T10 W10
  go_wp2_with (fail)
  refine (law_write_bad D11.out 0 rfl o6 2 (some ⟨b11, 0, none⟩) 64 64 (.inr (.inl (by omega)))).mono ?_
  rintro e w' ⟨rfl, rfl⟩
  go_wp2_with (fail)
  refine (law_filled D11.out 97).mono ?_
  rintro e w12 ⟨b12, rfl, hd, hs, -, -⟩
  have D12 := Lib.hid hd; have S12 := Lib.hid (S11.out.trans hs); have T12 := Lib.hid (T11.out.step hs); have W12 := Lib.hid (W11.out.step hs)
  clear hd hs D11 S11 T11 W11
  go_wp2_with (fail)
  refine (law_write_bad D12.out 0 rfl o6 0 (some ⟨b12, 0, none⟩) 63 64 (.inr (.inr (by omega)))).mono ?_
  rintro e w' ⟨rfl, rfl⟩
  -- x
  go_wp2_with (fail)
  refine (law_filled D12.out 97).mono ?_
  rintro e w13 ⟨b13, rfl, hd, hs, hb, hn⟩
  have D13 := Lib.hid hd; have S13 := Lib.hid (S12.out.trans hs); have T13 := Lib.hid (T12.out.step hs); have W13 := Lib.hid (W12.out.step hs)
  have B13 := Lib.hid (hb.bytes64 hn (fill_length _))
  clear hd hs hb hn D12 S12 T12 W12
  go_wp2_with (fail)
  refine (law_write D13.out 0 rfl o6 1 (by omega) (by omega) _ (fill 97) (fill_length _) B13.out (by rw [w6l]; omega)).mono ?_
  rw [e7]
  rintro e w14 ⟨rfl, M14, hd, hs⟩
  have D14 : Hid (Disks w14 w.heap.size M14 [(g, y7)]) := hd
  have S14 := Lib.hid (S13.out.trans hs); have T14 := Lib.hid (T13.out.step hs); have W14 := Lib.hid (W13.out.step hs)
  clear hd hs D13 S13 T13 W13 B13
  -- y
  go_wp2_with (fail)
  refine (law_flush D14.out 0 rfl o7).mono ?_
  rw [e8]
  rintro e w15 ⟨rfl, M15, hd, hs⟩
  have D15 : Hid (Disks w15 w.heap.size M15 [(g, y8)]) := hd
  have S15 := Lib.hid (S14.out.trans hs); have T15 := Lib.hid (T14.out.step hs); have W15 := Lib.hid (W14.out.step hs)
  clear hd hs D14 S14 T14 W14
  go_wp2_with (fail)
  refine (law_power D15.out 0 rfl).mono ?_
  rintro e w16 ⟨rfl, M16, hd, hs⟩
  have D16 : Hid (Disks w16 w.heap.size M16 [(g, y9)]) := hd
  have S16 := Lib.hid (S15.out.trans hs); have T16 := Lib.hid (T15.out.step hs); have W16 := Lib.hid (W15.out.step hs)
  clear hd hs D15 S15 T15 W15
  go_wp2_with (fail)
  refine (law_read D16.out 0 rfl o9 1 (by omega) (by omega) rfl).mono ?_
  rintro e w17 ⟨b17, rfl, hd, hs, hb, -, hn⟩
  have D17 := Lib.hid hd; have S17 := Lib.hid (S16.out.trans hs); have T17 := Lib.hid (T16.out.step hs); have W17 := Lib.hid (W16.out.step hs)
  have U17 : Hid (Bytes w17 M16 (.slice (some ⟨b17, 0, none⟩) 64 64) (y9.read 1)) := hb.bytes64 hn (DS.read_length o9 (by decide))
  clear hd hs hb hn D16 S16 T16 W16
  -- the answer
  go_wp2_with (fail)
  refine (law_same D17.out _ _ _ _ T17.out W17.out).mono ?_
  rw [sameB_true want5]
  rintro e w18 ⟨rfl, hd, hs⟩
  have D18 := Lib.hid hd; have S18 := Lib.hid (S17.out.trans hs); have U18 := Lib.hid (U17.out.step hs)
  clear hd hs D17 S17 T17 W17 U17
  go_wp2_with (fail)
  refine (law_filled D18.out 97).mono ?_
  rintro e w19 ⟨b19, rfl, hd, hs, hb, hn⟩
  have D19 := Lib.hid hd; have S19 := Lib.hid (S18.out.trans hs); have U19 := Lib.hid (U18.out.step hs)
  have B19 := Lib.hid (hb.bytes64 hn (fill_length _))
  clear hd hs hb hn D18 S18 U18
  go_wp2_with (fail)
  refine (law_same D19.out _ _ _ _ U19.out B19.out).mono ?_
  rw [sameB_true want9]
  rintro e w20 ⟨rfl, hd, hs⟩
  have D20 := Lib.hid hd; have S20 := Lib.hid (S19.out.trans hs)
  clear hd hs D19 S19 U19 B19
  go_wp2_with (fail)
  refine (law_pending D20.out 0 rfl).mono ?_
  rw [dn9]
  rintro e w' ⟨rfl, rfl⟩
  go_wp2_with (fail)
  refine (law_sectors D20.out 0 rfl o9).mono ?_
  rintro e w' ⟨rfl, rfl⟩
  go_wp2_with (fail)
  go_ret
  exact ⟨rfl, S20.out.below⟩

end Go.Proofs.Ythnolhcknhhipaa
