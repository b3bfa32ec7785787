/-
  DiskDurable: the walk.
  No condition.
-/
import Derived.Test.YthnolhcknhhipaaDkFour
import Derived.Deep.RegionLawGrows
namespace Go.Proofs.Ythnolhcknhhipaa
set_option linter.unusedVariables false
set_option linter.unusedSimpArgs false
open Go.RowKit

set_option maxHeartbeats 2000000 in
theorem durable_walk (w : World) (v u : Value) (ops mops : List OpD) (hv : OpsAt w NoB v ops) (hu : OpsAt w NoB u mops) (K : Value) (ks : List Int) (hk : Ints w NoB K ks) :
    Calls Try.prog 4 #[v, u, K] w fun e w' => e = .returned (.bool true) ∧ Below w.heap.size w w' := by
  have HV := Lib.hid hv; clear hv
  have HU := Lib.hid hu; clear hu
  have HK := Lib.hid hk; clear hk
  go_enter Try.func4, Try.ntmps4
  go_wp2_with (fail)
  refine (sanity_any w).mono ?_
  rintro e w1 ⟨rfl, hb⟩
  have D1 : Hid (Disks w1 w.heap.size NoB []) := ((Disks.start w).pure hb).1
  have S1 : Hid (Step NoB w NoB w1) := ((Disks.start w).pure hb).2
  have V1 : Hid (OpsAt w1 NoB v ops) := HV.out.step S1.out
  clear hb
  go_wp2_with (fail)
  refine (law_prepared D1.out v ops V1.out).mono ?_
  rintro e w2 ⟨g, rfl, M2, hd, hs⟩
  have D2 := Lib.hid hd; have S2 := Lib.hid (S1.out.trans hs)
  clear hd hs D1 S1 V1
  have U : Hid ((prep ops).Up 20) := prep_up ops
  generalize hp : prep ops = s at D2 U
  clear hp
  go_wp2_with (fail)
  refine (law_flush D2.out 0 rfl U.out.ok).mono ?_
  rw [show s.flush = (0, s.flush.2) from by rw [U.out.flush]]
  rintro e w3 ⟨rfl, M3, hd, hs⟩
  have D3 : Hid (Disks w3 w.heap.size M3 [(g, s.flush.2)]) := hd
  have S3 := Lib.hid (S2.out.trans hs)
  have U1 : Hid (s.flush.2.Up 0) := U.out.flushed
  clear hd hs D2 S2 U
  generalize s.flush.2 = s1 at D3 U1
  go_wp2_with (fail)
  refine (law_contents D3.out 0 rfl U1.out.ok U1.out.down).mono ?_
  rintro e w4 ⟨v4, rfl, hd, hs, hbt⟩
  have D4 := Lib.hid hd; have S4 := Lib.hid (S3.out.trans hs); have T4 := Lib.hid hbt
  clear hd hs hbt D3 S3
  go_wp2_with (fail)
  -- the writes
  obtain ⟨lo, hlo⟩ : ∃ lo, w4.heap.size = lo := ⟨_, rfl⟩
  obtain ⟨N, hN⟩ : ∃ N : Nat → Prop, N = fun k => M3 k ∨ lo ≤ k := ⟨_, rfl⟩
  have R0 : Hid (∃ M' f, Disks (w4.alloc (.cells #[.slice none 0 0, .slice none 0 0, .slice none 0 0, .slice none 0 0] 38)) w.heap.size M' [(g, s1.puts (wrTo mops 0))] ∧ Four (w4.alloc (.cells #[.slice none 0 0, .slice none 0 0, .slice none 0 0, .slice none 0 0] 38)) lo M' lo (lets mops 0) f ∧ (∀ k, M' k → N k) ∧ Step M3 w4 N (w4.alloc (.cells #[.slice none 0 0, .slice none 0 0, .slice none 0 0, .slice none 0 0] 38))) := by
    have hal : Below w4.heap.size w4 (w4.alloc (.cells #[.slice none 0 0, .slice none 0 0, .slice none 0 0, .slice none 0 0] 38)) := (Below.refl _ _).alloc (Nat.le_refl _) _
    refine ⟨M3, fun _ => .slice none 0 0, ?_, ?_, fun k hk => by rw [hN]; exact .inl hk, ?_⟩
    · have := (D4.out.pure hal).1
      simpa [DS.puts, wrTo] using this
    · have := Four.start (w := w4) (M := M3) lo (Nat.le_of_eq hlo.symm) (fun k hk => (D4.out.2.1 k hk).2)
      rw [hlo] at this
      exact this
    · refine (Step.of_below hal M3).to (fun _ h => h) (fun k hk => ?_)
      rw [hN] at hk; rw [hlo]; exact hk
  have HLO := Lib.hid hlo; have HN := Lib.hid hN
  rw [hlo]
  clear hlo hN
  have hul : Hid (mops.length ≤ 9223372036854775807) := by
    obtain ⟨ao, cap, hv, hc, hm, -⟩ := HU.out; show _ ≤ _; unfold maxLen at hm; omega
  obtain ⟨ua, uc, rfl⟩ : ∃ ua uc, u = .slice ua mops.length uc := by obtain ⟨ao, cap, hv, -⟩ := HU.out; exact ⟨ao, cap, hv⟩
  go_loopw [12] (fun i wr => ∃ j : Nat, j ≤ mops.length ∧ j ≤ 10 ∧ i = .int .i64 j ∧ Hid (∃ M' f, Disks wr w.heap.size M' [(g, s1.puts (wrTo mops j))] ∧ Four wr lo M' lo (lets mops j) f ∧ (∀ k, M' k → N k) ∧ Step M3 w4 N wr)) (fun i _ => 10 - (intOf i).toNat)
  case atStart => exact ⟨0, Nat.zero_le _, by omega, rfl, R0⟩
  case round =>
    obtain ⟨j, hj, hj10, rfl, RD⟩ := hrel
    obtain ⟨M', f, hd, hf, hMN, hs⟩ := RD.out
    have D := Lib.hid hd; have F := Lib.hid hf; have MN := Lib.hid hMN; have S := Lib.hid hs
    clear hd hf hMN hs RD
    by_cases hlt : j < mops.length ∧ j < 10
    · obtain ⟨hlt, h10⟩ := hlt
      have V := Lib.hid (HU.out.step (S4.out.trans S.out))
      obtain ⟨b, off, K0, rfl, hbl, hbm, hcell, -⟩ := V.out.get j hlt
      obtain ⟨x, hx⟩ : ∃ x, mops[j] = x := ⟨_, rfl⟩
      rw [hx] at hcell
      have HT : Hid (wrTo mops (j + 1) = wrTo mops j ++ [(at4 x.pos, fill x.byte)]) := by show _ = _; rw [wrTo_succ _ _ hlt, hx]
      have HL : Hid (∀ q, lets mops (j + 1) q = if at4 x.pos = (q : Int) then lets mops j q ++ [x.byte] else lets mops j q) := by intro q; rw [lets_succ _ _ hlt, hx]
      clear hx
      obtain ⟨ck, cp, cb, -, -⟩ := hcell
      have hU := U1.out.puts (wrTo mops j) (wrTo_ok mops j)
      have hwl := wrTo_length mops j
      have U := Lib.hid hU
      have HW : Hid ((s1.puts (wrTo mops j)).write (at4 x.pos) (fill x.byte) = (0, s1.puts (wrTo mops (j + 1)))) := by show _ = _; rw [U1.out.puts_write _ _ _ hU, HT.out]
      have hwr : (s1.puts (wrTo mops j)).wr.length < 1073741824 := by have := hU.wr; omega
      clear hU hwl
      have hj1 : (j : Int) < (mops.length : Int) := by omega
      have hj2 : (j : Int) < 10 := by omega
      have hj0 : (0 : Int) ≤ (j : Int) := Int.natCast_nonneg _
      have ht := tmod4_bd x.pos
      have htl := ht.1
      have htu := ht.2
      clear ht
      obtain ⟨q, hq⟩ : ∃ q : Nat, at4 x.pos = (q : Int) := ⟨(at4 x.pos).toNat, by have := at4_bd x.pos; omega⟩
      have Hq : Hid (q < 4) := by have := at4_bd x.pos; show _ < _; omega
      have X4 : Hid ((x.pos.tmod 4 + 4) % 4 = (q : Int)) := by
        show _ = _
        rw [← hq]
        unfold at4
        exact (Int.tmod_eq_emod_of_nonneg (by omega)).symm
      rw [hq] at HT HL HW
      clear hq
      go_wp2_with (fail)
      rw [X4.out]
      clear htl htu X4
      refine (law_filled D.out x.byte).mono ?_
      rintro e w5 ⟨b5, rfl, hd, hs, hb, hn⟩
      have D5 := Lib.hid hd; have F5 := Lib.hid (F.out.step hs); have S5 : Hid (Step M3 w4 N w5) := S.out.trans (hs.to MN.out (fun _ h => .inl h)); have B5 := Lib.hid (hb.bytes64 hn (fill_length _))
      have S15 := Lib.hid hs
      clear hd hs hb hn D F S
      go_wp2_with (fail)
      refine (law_write D5.out 0 rfl U.out.ok (q : Int) (by omega) (by have := Hq.out; omega) _ (fill x.byte) (fill_length _) B5.out hwr).mono ?_
      rw [HW.out]
      rintro e w6 ⟨rfl, M6, hd, hs⟩
      have D6 : Hid (Disks w6 w.heap.size M6 [(g, s1.puts (wrTo mops (j + 1)))]) := hd
      have F6 := Lib.hid (F5.out.step hs)
      have MN6 : Hid (∀ k, M6 k → N k) := fun k hk => (hs.grow k hk).elim (MN.out k) (fun h => by rw [HN.out]; right; have := F5.out.lt; omega)
      have S6 : Hid (Step M3 w4 N w6) := S5.out.trans (hs.to MN.out (fun _ h => .inl h))
      have hcb : w6.cell? ⟨b, off + j * 5 + 2, none⟩ = some (.int .u8 x.byte) := (S15.out.trans hs).cell (fun h => hbm (MN.out _ h)) cb
      clear hd hs D5 F5 S5 B5 MN HW hwr S15 ck cp cb V hbl
      have c6 := (F6.out.cell q Hq.out).1
      have hq4 : (q : Int) < 4 := by have := Hq.out; omega
      have hq0 : (0 : Int) ≤ (q : Int) := by omega
      obtain ⟨i0, hi, hz0, hz1, hz2⟩ := info_parts infobyte
      have hrow : Hid (w6.ownsRow lo 5 1 (f q) (lets mops j q).length ((lets mops j q).map (.int .u8))) := F6.out.row q Hq.out
      have hll : (lets mops j q).length ≤ 10 := Nat.le_trans (lets_length mops j q) hj10
      have hlow : lo ≤ w6.heap.size := Nat.le_of_lt F6.out.lt
      obtain ⟨aW, cW, hfq, -, hcW, -, -⟩ := ownsRow_shape hrow.out
      rw [hfq] at c6 hrow
      have hbe : Hid (∀ w3, ((w6.alloc (.cells #[.int .u8 x.byte] 5)).drew).grownBy w3 (Value.slice aW (lets mops j q).length cW).ownBlock → w3.cell? ⟨lo, q, none⟩ = some (.slice aW (lets mops j q).length cW) ∧ w3.frozen? ⟨lo, q, none⟩ = false) := by
        intro w3 hg3
        have hne : some lo ≠ (Value.slice aW (lets mops j q).length cW).ownBlock := fun e => (F6.out.own q Hq.out lo (by rw [hfq]; exact e.symm)).1 rfl
        have hblk := hg3.block lo (by show lo < (w6.alloc _).heap.size; have := F6.out.lt; simp; omega) hne
        have hblk2 : w3.heap[lo]? = w6.heap[lo]? := by rw [hblk]; exact Below.heap_alloc w6 _ lo F6.out.lt
        have := F6.out.cell q Hq.out
        rw [hfq] at this
        exact ⟨(World.cell?_of_block (a := ⟨lo, q, none⟩) hblk2).trans this.1, (World.frozen?_of_block (a := ⟨lo, q, none⟩) hblk2).trans this.2⟩
      have HFQ := Lib.hid hfq; clear hfq
      have c6a := cell_alloc c6 (.cells #[.int .u8 x.byte] 5)
      have cba := cell_alloc hcb (.cells #[.int .u8 x.byte] 5)
      go_wp2_with (fail)
      go_region_law ((refine step_append_lies _ (by rfl) (.tmp 60) (.tmp 66) 26 (by rfl) lo 5 i0 (.int .u8 0) 1 1 Try.underlying26 hi hz0 hz1 hz2 rfl (by decide) (.slice aW (lets mops j q).length cW) (lets mops j q).length ((lets mops j q).map (.int .u8)) (by rfl) ((hrow.out.alloc _).drew) ⟨w6.heap.size, 0, none⟩ 1 1 [.int .u8 x.byte] (by rfl) (by rfl) (World.news_of_block (cs := #[.int .u8 x.byte]) (t := 5) (fr := (0, 0)) (heap_alloc_new w6 _)) (by intro u hu; simp at hu; subst hu; rfl) (by decide) (by unfold maxLen; omega) (by omega) (by simp; omega) (w6.heap.size + 1) (by simp) ?_; intro gg cap3 w7 hown7 hgrow hat hlt7; have q1 := (hbe.out _ hgrow).1; have q2 := (hbe.out _ hgrow).2))
      all_goals
        have G7 : Hid (w6.grownBy w7 (f q).ownBlock) := by
          have := grown_trans (grown_drew (World.grownBy_alloc w6 (.cells #[.int .u8 x.byte] 5) _)) hgrow
          rw [HFQ.out]; exact this
        have hlq : Hid (lets mops (j + 1) = fun r => if r = q then lets mops j q ++ [x.byte] else lets mops j r) := by
          funext r
          rw [HL.out r]
          by_cases hr : r = q
          · subst hr; simp
          · rw [if_neg (by omega), if_neg hr]
        have R1 : Hid (∃ M' f, Disks (w7.setCell ⟨lo, q, none⟩ (.slice (some ⟨gg, 0, none⟩) ((lets mops j q).length + 1) cap3)) w.heap.size M' [(g, s1.puts (wrTo mops (j + 1)))] ∧ Four (w7.setCell ⟨lo, q, none⟩ (.slice (some ⟨gg, 0, none⟩) ((lets mops j q).length + 1) cap3)) lo M' lo (lets mops (j + 1)) f ∧ (∀ k, M' k → N k) ∧ Step M3 w4 N (w7.setCell ⟨lo, q, none⟩ (.slice (some ⟨gg, 0, none⟩) ((lets mops j q).length + 1) cap3))) := by
          have hA : Step (fun k => (f q).ownBlock = some k ∨ k = lo) w6 (fun k => (f q).ownBlock = some k ∨ k = lo) (w7.setCell ⟨lo, q, none⟩ (.slice (some ⟨gg, 0, none⟩) ((lets mops j q).length + 1) cap3)) :=
            (Step.of_grown G7.out (fun k hk => .inl hk)).setCell (.inl (.inr rfl)) _
          refine ⟨M6, fun r => if r = q then .slice (some ⟨gg, 0, none⟩) ((lets mops j q).length + 1) cap3 else f r, D6.out.aside hA ?_, ?_, MN6.out, S6.out.trans (hA.to ?_ (fun _ h => .inl h))⟩
          · rintro k hk (h | h)
            · exact (F6.out.own q Hq.out k h).2 hk
            · subst h; exact F6.out.nB hk
          · rw [hlq.out]
            refine F6.out.put (fun k hk => (D6.out.2.1 k hk).2) q Hq.out _ (lets mops j q ++ [x.byte]) G7.out (by simpa using hown7) ?_
            intro k hk
            have : gg = k := by simpa [Value.ownBlock] using hk
            subst this
            rcases hat with h | h
            · left; rw [HFQ.out]; exact h
            · right; omega
          · intro k hk
            rw [HN.out]
            right
            rcases hk with h | h
            · exact ((F6.out.row q Hq.out).lt k h).1
            · omega
        clear hlq G7 hown7 hgrow hat D6 F6 S6 hbe hrow HFQ
        go_wp2
        go_roundw
        case rel => exact ⟨j + 1, by omega, by omega, by go_num, R1⟩
        case measure => simp [intOf]; omega
    · have T : Hid (Bytes wr M' v4 s1.all) := (T4.out.step S.out).wide (fun k _ hk => MN.out k hk)
      have Kp : Hid (Ints wr M' K ks) := (HK.out.step (S4.out.trans S.out)).wide (fun k _ hk => MN.out k hk)
      have S0 : Hid (Step NoB w M' wr) := (S4.out.trans S.out).to (fun _ h => h) (fun k hk => .inr (D.out.2.1 k hk).1)
      have hU := U1.out.puts (wrTo mops j) (wrTo_ok mops j)
      have U := Lib.hid hU
      have DB : Hid (∀ i (hi : i < 256) (h1 : i < ((s1.puts (wrTo mops j)).back ks).all.length) (h2 : i < s1.all.length), ((s1.puts (wrTo mops j)).back ks).all[i] = s1.all[i] ∨ ((s1.puts (wrTo mops j)).back ks).all[i] ∈ lets mops j (i / 64)) := fun i hi h1 h2 => durable_get U1.out mops j ks i hi h1 h2
      have LL : Hid (∀ q, (lets mops j q).length ≤ 10) := fun q => Nat.le_trans (lets_length mops j q) hj10
      have OK1 := Lib.hid U1.out.ok
      generalize lets mops j = Ls at F DB LL
      generalize s1.puts (wrTo mops j) = s2 at D U DB hU
      have OKC : Hid ((s2.crash ks).Ok 4) := DS.crash_ok U.out.ok ks
      have DN : Hid ((s2.crash ks).down = true) := by show _ = _; rw [U.out.crash]
      clear hU HU S4 T4 D4 HK U1 R0 S
      have hfin : (j < mops.length ∧ ¬ j < 10) ∨ ¬ j < mops.length := by
        by_cases h : j < mops.length
        · exact .inl ⟨h, fun h' => hlt ⟨h, h'⟩⟩
        · exact .inr h
      clear hlt
      rcases hfin with ⟨hl, h20⟩ | hl
      all_goals
        go_wp2_with (fail)
        refine (law_crash D.out 0 rfl U.out.ok K ks Kp.out).mono ?_
        rintro e w7 ⟨rfl, M7, hd, hs⟩
        have D7 : Hid (Disks w7 w.heap.size M7 [(g, s2.crash ks)]) := hd
        have F7 := Lib.hid (F.out.step hs); have T7 := Lib.hid (T.out.step hs); have S7 := Lib.hid (S0.out.trans hs)
        clear hd hs D F T S0 Kp
        go_wp2_with (fail)
        refine (law_read_down D7.out 0 rfl OKC.out 0 (by omega) (by omega) DN.out).mono ?_
        rintro e w' ⟨rfl, rfl⟩
        go_wp2_with (fail)
        refine (law_power D7.out 0 rfl).mono ?_
        rintro e w8 ⟨rfl, M8, hd, hs⟩
        have D8 : Hid (Disks w8 w.heap.size M8 [(g, s2.back ks)]) := hd
        have F8 := Lib.hid (F7.out.step hs); have T8 := Lib.hid (T7.out.step hs); have S8 := Lib.hid (S7.out.trans hs)
        clear hd hs D7 F7 T7 S7
        have UB : Hid ((s2.back ks).Up 0) := U.out.back ks
        generalize s2.back ks = s3 at D8 UB DB
        clear OKC DN U
        go_wp2_with (fail)
        refine (law_contents D8.out 0 rfl UB.out.ok UB.out.down).mono ?_
        rintro e w9 ⟨v9, rfl, hd, hs, hbt⟩
        have D9 := Lib.hid hd; have F9 := Lib.hid (F8.out.step hs); have T9 := Lib.hid (T8.out.step hs); have S9 := Lib.hid (S8.out.trans hs); have R9 := Lib.hid hbt
        clear hd hs hbt D8 F8 T8 S8
        obtain ⟨a4, c4, rfl, -, hc4⟩ := T9.out.form
        obtain ⟨a9, c9, rfl, -, hc9⟩ := R9.out.form
        have hl4 := DS.all_length OK1.out
        have hl9 := DS.all_length UB.out.ok
        have A4 := Lib.hid hc4; have A9 := Lib.hid hc9
        clear hc4 hc9
        simp only [hl4, hl9] at T9 R9 A4 A9 DB ⊢
        go_wp2_with (fail)
        refine (law_pending D9.out 0 rfl).mono ?_
        rw [DS.wr_nil UB.out]
        rintro e w' ⟨rfl, rfl⟩
        go_wp2_with (fail)
        go_loopw [17] (fun i wr => ∃ t : Nat, t ≤ 256 ∧ i = .int .i64 t ∧ Hid (∃ n, wr = w9.drewN n)) (fun i _ => 256 - (intOf i).toNat)
        case atStart => exact ⟨0, by omega, rfl, ⟨0, rfl⟩⟩
        case round =>
          obtain ⟨t, ht, rfl, RW⟩ := hrel
          obtain ⟨n, rfl⟩ := RW.out
          clear RW
          by_cases hlt : t < 256
          · obtain ⟨b1, o1, rfl, q1, n1, c1⟩ := A4.out t hlt
            obtain ⟨b2, o2, rfl, q2, n2, c2⟩ := A9.out t hlt
            have hor := DB.out t hlt hlt hlt
            generalize (s1.all[t]'(by rw [hl4]; exact hlt)) = y1 at c1 hor
            generalize (s3.all[t]'(by rw [hl9]; exact hlt)) = y2 at c2 hor
            have HOR := Lib.hid hor; clear hor
            have ht0 : (0 : Int) ≤ (t : Int) := by omega
            have ht1 : (t : Int) < 256 := by omega
            obtain ⟨q, hq⟩ : ∃ q : Nat, t / 64 = q := ⟨_, rfl⟩
            have hqi : (t : Int) / 64 = (q : Int) := by omega
            have hq4 : q < 4 := by omega
            have hq5 : (q : Int) < 4 := by omega
            have hq6 : (0 : Int) ≤ (q : Int) := by omega
            rw [hq] at HOR
            have cq := (F9.out.cell q hq4).1
            obtain ⟨aq, cpq, hfq, -, hcq⟩ := (bytes_of_own (M := NoB) (F9.out.row q hq4) rfl (fun _ _ h => h)).form
            rw [hfq] at cq
            have hll := LL.out q
            have CQ := Lib.hid hcq
            clear hcq hfq hq
            go_wp2_with (fail)
            go_quiet (fail)
            go_wp2
            have I0 : Hid ((y2 == y1) = false → y2 ≠ y1 ∧ y2 ∉ (Ls q).take 0) := fun h => ⟨by simpa using h, by simp⟩
            have I1 : Hid (∃ n', (w9.drewN n).drewN nq = w9.drewN n') := ⟨_, World.drewN_drewN _ _ _⟩
            go_loopw [18, 19] (fun o i wr => ∃ (b : Bool) (k : Nat), k ≤ (Ls q).length ∧ o = .bool b ∧ i = .int .i64 k ∧ Hid (b = false → y2 ≠ y1 ∧ y2 ∉ (Ls q).take k) ∧ Hid (∃ n', wr = w9.drewN n')) (fun _ i _ => (Ls q).length - (intOf i).toNat)
            case atStart => exact ⟨_, 0, Nat.zero_le _, rfl, rfl, I0, I1⟩
            case round =>
              clear I0 I1
              obtain ⟨bb, k, hk, rfl, rfl, RI, RW⟩ := hrel
              obtain ⟨n', rfl⟩ := RW.out
              clear RW
              by_cases hkl : k < (Ls q).length
              · obtain ⟨b3, o3, rfl, q3, -, c3⟩ := CQ.out k hkl
                have hnx : Hid ((Ls q).take (k + 1) = (Ls q).take k ++ [(Ls q)[k]]) := take_snoc' _ _ hkl
                generalize (Ls q)[k] = y3 at c3 hnx
                have hk0 : (0 : Int) ≤ (k : Int) := by omega
                have hk1 : (k : Int) < ((Ls q).length : Int) := by omega
                cases bb with
                | true =>
                  have R1 : Hid (true = false → y2 ≠ y1 ∧ y2 ∉ (Ls q).take (k + 1)) := by intro h; cases h
                  go_wp2_with (fail)
                  go_quiet (fail)
                  go_wp2
                  go_roundw
                  case rel => exact ⟨_, k + 1, by omega, rfl, by go_num, R1, ⟨_, rfl⟩⟩
                  case measure => simp [intOf]; omega
                | false =>
                  have R1 : Hid ((y2 == y3) = false → y2 ≠ y1 ∧ y2 ∉ (Ls q).take (k + 1)) := by
                    intro h
                    have h3 : y2 ≠ y3 := by simpa using h
                    refine ⟨(RI.out rfl).1, ?_⟩
                    rw [hnx.out]
                    intro hm
                    rcases List.mem_append.1 hm with hm | hm
                    · exact (RI.out rfl).2 hm
                    · exact h3 (by simpa using hm)
                  go_wp2_with (fail)
                  go_quiet (fail)
                  go_wp2
                  go_roundw
                  case rel => exact ⟨_, k + 1, by omega, rfl, by go_num, R1, ⟨_, rfl⟩⟩
                  case measure => simp [intOf]; omega
              · have hbt : bb = true := by
                  cases bb with
                  | true => rfl
                  | false =>
                    exfalso
                    have h := RI.out rfl
                    rw [List.take_of_length_le (by omega)] at h
                    exact HOR.out.elim h.1 h.2
                subst hbt
                clear RI
                go_wp2_with (fail)
                go_roundw
                case rel => exact ⟨t + 1, by omega, by go_num, ⟨_, rfl⟩⟩
                case measure => simp [intOf]; omega
          · obtain rfl : t = 256 := by omega
            clear hlt
            go_wp2_with (fail)
            go_ret
            exact ⟨rfl, Below.drewN S9.out.below n⟩

end Go.Proofs.Ythnolhcknhhipaa
