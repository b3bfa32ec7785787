/-
  DiskTorn: the walk.
  No condition.
-/
import Derived.Test.YthnolhcknhhipaaDkTornLaw
namespace Go.Proofs.Ythnolhcknhhipaa
set_option linter.unusedVariables false
set_option linter.unusedSimpArgs false
open Go.RowKit

set_option maxRecDepth 100000 in
set_option maxHeartbeats 4000000 in
theorem torn_walk (w : World) (v u : Value) (ops mops : List OpD) (hv : OpsAt w NoB v ops) (hu : OpsAt w NoB u mops) (k : Int) (hk0 : -9223372036854775808 ≤ k) (hk1 : k ≤ 9223372036854775807) :
    Calls Try.prog 6 #[v, u, .int .i64 k] w fun e w' => e = .returned (.bool true) ∧ Below w.heap.size w w' := by
  have HV := Lib.hid hv; clear hv
  have HU := Lib.hid hu; clear hu
  go_enter Try.func6, Try.ntmps6
  go_wp2_with (fail)
  refine (sanity_any w).mono ?_
  rintro e w1 ⟨rfl, hb⟩
  have D1 : Hid (Disks w1 w.heap.size NoB []) := ((Disks.start w).pure hb).1
  have S1 : Hid (Step NoB w NoB w1) := ((Disks.start w).pure hb).2
  have V1 : Hid (OpsAt w1 NoB v ops) := HV.out.step S1.out
  clear hb
  go_wp2_with (fail)
  refine (law_prepared D1.out v ops V1.out).mono ?_
  rintro e w2 ⟨g, rfl, M2, hd, hs⟩
  have D2 := Lib.hid hd; have S2 := Lib.hid (S1.out.trans hs)
  clear hd hs D1 S1 V1
  have U : Hid ((prep ops).Up 20) := prep_up ops
  generalize hp : prep ops = s at D2 U
  clear hp
  go_wp2_with (fail)
  refine (law_flush D2.out 0 rfl U.out.ok).mono ?_
  rw [show s.flush = (0, s.flush.2) from by rw [U.out.flush]]
  rintro e w3 ⟨rfl, M3, hd, hs⟩
  have D3 : Hid (Disks w3 w.heap.size M3 [(g, s.flush.2)]) := hd
  have S3 := Lib.hid (S2.out.trans hs)
  have U1 : Hid (s.flush.2.Up 0) := U.out.flushed
  clear hd hs D2 S2 U
  generalize s.flush.2 = s1 at D3 U1
  go_wp2_with (fail)
  refine (law_contents D3.out 0 rfl U1.out.ok U1.out.down).mono ?_
  rintro e w4 ⟨v4, rfl, hd, hs, hbt⟩
  have D4 := Lib.hid hd; have S4 := Lib.hid (S3.out.trans hs); have T4 := Lib.hid hbt
  clear hd hs hbt D3 S3
  have C1 : Hid (s1.wr.length < 1073741824) := by show _ < _; rw [DS.wr_nil U1.out]; decide
  have C2 : Hid (s1.kept.length * 8 ≤ 140737488355328) := by show _ ≤ _; rw [U1.out.kept]; decide
  go_wp2_with (fail)
  refine (law_copy D4.out 0 rfl U1.out.ok C1.out C2.out).mono ?_
  rintro e w5 ⟨g1, rfl, M5, hd, hs⟩
  have D5 : Hid (Disks w5 w.heap.size M5 [(g, s1), (g1, s1)]) := hd
  have S5 := Lib.hid (S4.out.trans hs); have T5 := Lib.hid (T4.out.step hs)
  clear hd hs D4 S4 T4
  go_wp2_with (fail)
  refine (law_copy D5.out 0 rfl U1.out.ok C1.out C2.out).mono ?_
  rintro e w6 ⟨g2, rfl, M6, hd, hs⟩
  have D6 : Hid (Disks w6 w.heap.size M6 [(g, s1), (g1, s1), (g2, s1)]) := hd
  have S6 := Lib.hid (S5.out.trans hs); have T6 := Lib.hid (T5.out.step hs)
  clear hd hs D5 S5 T5
  go_wp2_with (fail)
  refine (law_copy D6.out 0 rfl U1.out.ok C1.out C2.out).mono ?_
  rintro e w7 ⟨g3, rfl, M7, hd, hs⟩
  have D7 : Hid (Disks w7 w.heap.size M7 [(g, s1), (g1, s1), (g2, s1), (g3, s1)]) := hd
  have S7 := Lib.hid (S6.out.trans hs); have T7 := Lib.hid (T6.out.step hs)
  clear hd hs D6 S6 T6
  obtain ⟨a4, c4, rfl, -, hc4⟩ := T7.out.form
  have HL := Lib.hid (DS.all_length U1.out.ok)
  have hl4 := HL.out
  clear hc4
  simp only [hl4] at T7 ⊢
  clear hl4
  go_wp2_with (fail)
  refine (law_filled D7.out 200).mono ?_
  rintro e w8 ⟨b8, rfl, hd, hs, hb, hn⟩
  have D8 := Lib.hid hd; have S8 := Lib.hid (S7.out.trans hs); have B8 := Lib.hid (hb.bytes64 hn (fill_length _)); have T8 := Lib.hid (T7.out.step hs)
  clear hd hs hb hn D7 S7 T7
  go_wp2_with (fail)
  refine (law_write D8.out 1 rfl U1.out.ok 2 (by omega) (by omega) _ (fill 200) (fill_length _) B8.out C1.out).mono ?_
  rintro e w9 ⟨rfl, M9, hd, hs⟩
  have D9 : Hid (Disks w9 w.heap.size M9 [(g, s1), (g1, (s1.write 2 (fill 200)).2), (g2, s1), (g3, s1)]) := hd
  have S9 := Lib.hid (S8.out.trans hs); have T9 := Lib.hid (T8.out.step hs)
  clear hd hs D8 S8 T8 B8
  have UW : Hid ((s1.write 2 (fill 200)).2.Up 1) := U1.out.written 2 (by omega) (by omega) _ (fill_length _)
  have TG : Hid (∀ i (hi : i < 256) (h1 : i < ((s1.write 2 (fill 200)).2.back [k]).all.length) (h2 : i < s1.all.length), ((s1.write 2 (fill 200)).2.back [k]).all[i] = if (i : Int) / 64 = 2 ∧ (i : Int) % 64 < k then 200 else s1.all[i]) := fun i hi h1 h2 => torn_get U1.out k i hi h1 h2
  generalize (s1.write 2 (fill 200)).2 = s2 at D9 UW TG
  have hal9 : Hid (Below w9.heap.size w9 (w9.alloc (.cells #[.int .i64 k] 3))) := (Below.refl _ _).alloc (Nat.le_refl _) _
  go_wp2_with (fail)
  refine (law_crash (D9.out.pure hal9.out).1 1 rfl UW.out.ok _ [k] (ints_one (fun j hj => (D9.out.2.1 j hj).2) k)).mono ?_
  rintro e w10 ⟨rfl, M10, hd, hs⟩
  have D10 : Hid (Disks w10 w.heap.size M10 [(g, s1), (g1, s2.crash [k]), (g2, s1), (g3, s1)]) := hd
  have hs' := (D9.out.pure hal9.out).2.trans hs
  have S10 := Lib.hid (S9.out.trans hs'); have T10 := Lib.hid (T9.out.step hs')
  clear hd hs hs' D9 S9 T9 hal9
  go_wp2_with (fail)
  refine (law_power D10.out 1 rfl).mono ?_
  rintro e w11 ⟨rfl, M11, hd, hs⟩
  have D11 : Hid (Disks w11 w.heap.size M11 [(g, s1), (g1, s2.back [k]), (g2, s1), (g3, s1)]) := hd
  have S11 := Lib.hid (S10.out.trans hs); have T11 := Lib.hid (T10.out.step hs)
  clear hd hs D10 S10 T10
  have UB : Hid ((s2.back [k]).Up 0) := UW.out.back [k]
  generalize s2.back [k] = s3 at D11 UB TG
  go_wp2_with (fail)
  refine (law_contents D11.out 1 rfl UB.out.ok UB.out.down).mono ?_
  rintro e w12 ⟨v12, rfl, hd, hs, hbt⟩
  have D12 := Lib.hid hd; have S12 := Lib.hid (S11.out.trans hs); have T12 := Lib.hid (T11.out.step hs); have R12 := Lib.hid hbt
  clear hd hs hbt D11 S11 T11 UW
  have hl4 := HL.out
  have hl9 := DS.all_length UB.out.ok
  have T12' : Hid (Bytes w12 M11 (.slice a4 s1.all.length c4) s1.all) := by have := T12.out; rw [hl4]; exact this
  obtain ⟨a4', c4', he4, -, hc4⟩ := T12'.out.form
  obtain ⟨a9, c9, rfl, -, hc9⟩ := R12.out.form
  have A4 := Lib.hid hc4; have A9 := Lib.hid hc9
  clear hc4 hc9
  simp only [hl4, hl9] at he4 R12 A4 A9 TG ⊢
  cases he4
  clear T12'
  go_wp2_with (fail)
  go_loopw [14] (fun i wr => ∃ t : Nat, t ≤ 256 ∧ i = .int .i64 t ∧ wr = w12) (fun i _ => 256 - (intOf i).toNat)
  case atStart => exact ⟨0, by omega, rfl, rfl⟩
  case round =>
    obtain ⟨t, ht, rfl, rfl⟩ := hrel
    by_cases hlt : t < 256
    · obtain ⟨b1, o1, rfl, q1, n1, c1⟩ := A4.out t hlt
      obtain ⟨b2, o2, rfl, q2, n2, c2⟩ := A9.out t hlt
      have hor := TG.out t hlt hlt hlt
      rw [hor] at c2
      generalize (s1.all[t]'(by rw [hl4]; exact hlt)) = y1 at c1 c2
      have ht0 : (0 : Int) ≤ (t : Int) := by omega
      have ht1 : (t : Int) < 256 := by omega
      clear hor
      by_cases h2 : (t : Int) / 64 = 2
      · have e1 : ((t : Int) / 64 == 2) = true := by simp [h2]
        by_cases h3 : (t : Int) % 64 < k
        · rw [if_pos ⟨h2, h3⟩] at c2
          clear h2
          go_wp2_with (fail)
          go_roundw
          case rel => exact ⟨t + 1, by omega, by go_num, trivial⟩
          case measure => simp [intOf]; omega
        · rw [if_neg (fun h => h3 h.2)] at c2
          clear h2
          go_wp2_with (fail)
          go_roundw
          case rel => exact ⟨t + 1, by omega, by go_num, trivial⟩
          case measure => simp [intOf]; omega
      · have e1 : ((t : Int) / 64 == 2) = false := by simp [h2]
        rw [if_neg (fun h => h2 h.1)] at c2
        clear h2
        go_wp2_with (fail)
        go_roundw
        case rel => exact ⟨t + 1, by omega, by go_num, trivial⟩
        case measure => simp [intOf]; omega
    · have ht9 : (256 : Int) ≤ (t : Int) := by omega
      clear hlt ht A4 A9 TG R12 HL
      have hl4' : Hid (s1.all.length = 256) := hl4
      clear hl4 hl9 C1 C2
      have R0 : Hid (∃ M', Disks wr w.heap.size M' [(g, s1.puts (tornTo mops 0)), (g1, s3), (g2, s1.puts (tornTo mops 0)), (g3, s1.puts (tornTo mops 0))] ∧ Step M11 wr M' wr) := ⟨M11, by have := D12.out; simpa [DS.puts, tornTo] using this, Step.refl _ _⟩
      have hul : Hid (mops.length ≤ 9223372036854775807) := by
        obtain ⟨ao, cap, hv, hc, hm, -⟩ := HU.out; show _ ≤ _; unfold maxLen at hm; omega
      obtain ⟨ua, uc, rfl⟩ : ∃ ua uc, u = .slice ua mops.length uc := by obtain ⟨ao, cap, hv, -⟩ := HU.out; exact ⟨ao, cap, hv⟩
      have MOK : Hid (∀ y ∈ mops, y.Ok) := by obtain ⟨ao, cap, hv, hc, hm, hok, -⟩ := HU.out; exact hok
      generalize hwz : wr = wz at D12 S12 T12 R0 ⊢
      clear hwz
      go_wp2_with (fail)
      go_loopw [16] (fun i wr => ∃ j : Nat, j ≤ mops.length ∧ j ≤ 10 ∧ i = .int .i64 j ∧ Hid (∃ M', Disks wr w.heap.size M' [(g, s1.puts (tornTo mops j)), (g1, s3), (g2, s1.puts (tornTo mops j)), (g3, s1.puts (tornTo mops j))] ∧ Step M11 wz M' wr)) (fun i _ => 10 - (intOf i).toNat)
      case atStart => exact ⟨0, Nat.zero_le _, by omega, rfl, R0⟩
      case round =>
        obtain ⟨j, hj, hj10, rfl, RD⟩ := hrel
        obtain ⟨M', hd, hs⟩ := RD.out
        have D := Lib.hid hd; have S := Lib.hid hs
        clear hd hs RD
        by_cases hlt : j < mops.length ∧ j < 10
        · obtain ⟨hlt, h10⟩ := hlt
          have V := Lib.hid (HU.out.step (S12.out.trans S.out))
          obtain ⟨b, off, K0, rfl, hbl, hbm, hcell, -⟩ := V.out.get j hlt
          obtain ⟨x, hx⟩ : ∃ x, mops[j] = x := ⟨_, rfl⟩
          rw [hx] at hcell
          have xok := Lib.hid (MOK.out x (hx ▸ List.getElem_mem hlt))
          have HT : Hid (((s1.puts (tornTo mops j)).writeAny 4 (at4 x.pos) x.bit).2 = s1.puts (tornTo mops (j + 1))) := torn_step U1.out mops j hlt x hx
          clear hx
          obtain ⟨c0, c1, c2, c3, c4⟩ := hcell
          have hU := U1.out.puts (tornTo mops j) (tornTo_ok mops j)
          have hwl := tornTo_length mops j
          have OKP := Lib.hid hU.ok
          have hwr : Hid ((s1.puts (tornTo mops j)).wr.length < 1073741824) := by have := hU.wr; show _ < _; omega
          clear hU hwl
          generalize s1.puts (tornTo mops j) = p1 at D HT OKP hwr
          obtain ⟨p2, hp2⟩ : ∃ p2, s1.puts (tornTo mops (j + 1)) = p2 := ⟨_, rfl⟩
          rw [hp2] at HT
          have HP2 := Lib.hid hp2; clear hp2
          have hj1 : (j : Int) < (mops.length : Int) := by omega
          have hj2 : (j : Int) < 10 := by omega
          have hj0 : (0 : Int) ≤ (j : Int) := Int.natCast_nonneg _
          have ht := tmod4_bd x.pos
          have htl := ht.1
          have htu := ht.2
          clear ht
          obtain ⟨q, hq⟩ : ∃ q : Nat, at4 x.pos = (q : Int) := ⟨(at4 x.pos).toNat, by have := at4_bd x.pos; omega⟩
          have X4 : Hid ((x.pos.tmod 4 + 4) % 4 = (q : Int)) := by
            show _ = _
            rw [← hq]
            unfold at4
            exact (Int.tmod_eq_emod_of_nonneg (by omega)).symm
          have X5 : Hid (x.pos.tmod 4 % 4 = (q : Int)) := by have := X4.out; show _ = _; omega
          rw [hq] at HT
          clear hq
          have hdl := x.dlen_le
          have BL : Hid (x.bit.length = min x.dlen 64) := by show _ = _; unfold OpD.bit; rw [List.length_take, x.data_length]; omega
          obtain ⟨mm, hmm⟩ : ∃ mm : Nat, x.bit.length = mm := ⟨_, rfl⟩
          have hcase : ((x.dlen : Int) ≤ 64 ∧ (64 < (x.dlen : Int)) = False ∧ mm = x.dlen) ∨ (64 < (x.dlen : Int) ∧ 64 ≤ (x.dlen : Int) ∧ mm = 64) := by
            have := BL.out
            by_cases h : (x.dlen : Int) ≤ 64
            · exact .inl ⟨h, by simp; omega, by omega⟩
            · exact .inr ⟨by omega, by omega, by omega⟩
          have HB : Hid (∀ (w : World) (b : Nat) (M : Nat → Prop), ByteBlock w b x.data → ¬ M b → Bytes w M (.slice (some ⟨b, 0, none⟩) mm x.dlen) x.bit) := by
            intro w b M h1 h2
            have := bytes_head h1 h2 64 x.dlen (by rw [x.data_length]; exact Nat.le_refl _) (by unfold maxLen; omega)
            rw [← hmm]; exact this
          clear hmm
          have HC := Lib.hid hcase; clear hcase
          go_wp2_with (fail)
          first | rw [X4.out] | rw [X5.out]
          clear X4 X5 htl htu
          have hdl0 : (0 : Int) ≤ (x.dlen : Int) := by omega
          have hdl1 : (x.dlen : Int) ≤ 70 := by omega
          rcases HC.out with ⟨hc1, hc2, rfl⟩ | ⟨hc1, hc2, rfl⟩
          all_goals
            have Dd := Lib.hid D.out.drew
            go_wp2_with (fail)
            go_region_held3 (fun w' => w'.cell? ⟨b, off + j * 5, none⟩ = some (.int .u8 x.kind) ∧ w'.cell? ⟨b, off + j * 5 + 1, none⟩ = some (.int .i64 x.pos) ∧ w'.cell? ⟨b, off + j * 5 + 2, none⟩ = some (.int .u8 x.byte) ∧ w'.cell? ⟨b, off + j * 5 + 3, none⟩ = some (.int .i64 x.long) ∧ w'.cell? ⟨b, off + j * 5 + 4, none⟩ = some K0)
              (first
                | exact ⟨c0, c1, c2, c3, c4⟩
                | (go_split_ands; first
                    | exact ⟨by assumption, by assumption, by assumption, by assumption, by assumption⟩
                    | exact OpCells.step ⟨by assumption, by assumption, by assumption, by assumption, by assumption⟩ hs4 (hs3.away (Nat.lt_of_lt_of_le hbl hs2.size) (hs2.away hbl hbm))
                    | exact OpCells.step ⟨by assumption, by assumption, by assumption, by assumption, by assumption⟩ hs3 (hs2.away hbl hbm)
                    | exact OpCells.step ⟨by assumption, by assumption, by assumption, by assumption, by assumption⟩ hs2 hbm))
              (first
                | (go_at_call 28; (with_reducible refine (law_data Dd.out x xok.out K0).mono ?_); rintro e w2 ⟨bb, rfl, hd2, hs2, hbb, hbn⟩)
                | (go_at_call 28; (with_reducible refine (law_data hd2 x xok.out K0).mono ?_); rintro e w3 ⟨bc, rfl, hd3, hs3, hbc, hbn3⟩)
                | (go_at_call 14; refine (law_write_all hd3 0 rfl OKP.out (q : Int) _ x.bit (HB.out _ _ _ (hbb.step hs3 hbn) (hs3.away hbb.lt hbn)) hwr.out).mono ?_; rintro e w4 ⟨rfl, M4, hd4, hs4⟩))
            obtain ⟨y1, hy1⟩ : ∃ y, w4 = y := ⟨_, rfl⟩
            obtain ⟨N1, hN1⟩ : ∃ N, M4 = N := ⟨_, rfl⟩
            rw [hy1] at hd4 hs4 ⊢
            rw [hN1] at hd4 hs4
            have E1 : Hid (Disks y1 w.heap.size N1 [(g, p2), (g1, s3), (g2, p1), (g3, p1)]) := by have := hd4; rw [HT.out] at this; exact this
            have hst := (((Step.refl M' wr).drew.trans hs2).trans hs3).trans hs4
            have Y1 := Lib.hid hst
            have c0 := hst.cell hbm c0
            have c1 := hst.cell hbm c1
            have c2 := hst.cell hbm c2
            have c3 := hst.cell hbm c3
            have c4 := hst.cell hbm c4
            have hbm := hst.away hbl hbm
            have hbl := Nat.lt_of_lt_of_le hbl hst.size
            clear hd2 hs2 hbb hbn hd3 hs3 hbc hbn3 hd4 hs4 hst Dd D hy1 hN1
            have Dd := Lib.hid E1.out.drew
            go_wp2_with (fail)
            go_region_held3 (fun w' => w'.cell? ⟨b, off + j * 5, none⟩ = some (.int .u8 x.kind) ∧ w'.cell? ⟨b, off + j * 5 + 1, none⟩ = some (.int .i64 x.pos) ∧ w'.cell? ⟨b, off + j * 5 + 2, none⟩ = some (.int .u8 x.byte) ∧ w'.cell? ⟨b, off + j * 5 + 3, none⟩ = some (.int .i64 x.long) ∧ w'.cell? ⟨b, off + j * 5 + 4, none⟩ = some K0)
              (first
                | exact ⟨c0, c1, c2, c3, c4⟩
                | (go_split_ands; first
                    | exact ⟨by assumption, by assumption, by assumption, by assumption, by assumption⟩
                    | exact OpCells.step ⟨by assumption, by assumption, by assumption, by assumption, by assumption⟩ hs4 (hs3.away (Nat.lt_of_lt_of_le hbl hs2.size) (hs2.away hbl hbm))
                    | exact OpCells.step ⟨by assumption, by assumption, by assumption, by assumption, by assumption⟩ hs3 (hs2.away hbl hbm)
                    | exact OpCells.step ⟨by assumption, by assumption, by assumption, by assumption, by assumption⟩ hs2 hbm))
              (first
                | (go_at_call 28; (with_reducible refine (law_data Dd.out x xok.out K0).mono ?_); rintro e w2 ⟨bb, rfl, hd2, hs2, hbb, hbn⟩)
                | (go_at_call 28; (with_reducible refine (law_data hd2 x xok.out K0).mono ?_); rintro e w3 ⟨bc, rfl, hd3, hs3, hbc, hbn3⟩)
                | (go_at_call 14; refine (law_write_all hd3 2 rfl OKP.out (q : Int) _ x.bit (HB.out _ _ _ (hbb.step hs3 hbn) (hs3.away hbb.lt hbn)) hwr.out).mono ?_; rintro e w4 ⟨rfl, M4, hd4, hs4⟩))
            obtain ⟨y2, hy2⟩ : ∃ y, w4 = y := ⟨_, rfl⟩
            obtain ⟨N2, hN2⟩ : ∃ N, M4 = N := ⟨_, rfl⟩
            rw [hy2] at hd4 hs4 ⊢
            rw [hN2] at hd4 hs4
            have E2 : Hid (Disks y2 w.heap.size N2 [(g, p2), (g1, s3), (g2, p2), (g3, p1)]) := by have := hd4; rw [HT.out] at this; exact this
            have hst := (((Step.refl N1 y1).drew.trans hs2).trans hs3).trans hs4
            have Y2 := Lib.hid hst
            have c0 := hst.cell hbm c0
            have c1 := hst.cell hbm c1
            have c2 := hst.cell hbm c2
            have c3 := hst.cell hbm c3
            have c4 := hst.cell hbm c4
            have hbm := hst.away hbl hbm
            have hbl := Nat.lt_of_lt_of_le hbl hst.size
            clear hd2 hs2 hbb hbn hd3 hs3 hbc hbn3 hd4 hs4 hst Dd E1 hy2 hN2
            have Dd := Lib.hid E2.out.drew
            go_wp2_with (fail)
            go_region_held3 (fun w' => w'.cell? ⟨b, off + j * 5, none⟩ = some (.int .u8 x.kind) ∧ w'.cell? ⟨b, off + j * 5 + 1, none⟩ = some (.int .i64 x.pos) ∧ w'.cell? ⟨b, off + j * 5 + 2, none⟩ = some (.int .u8 x.byte) ∧ w'.cell? ⟨b, off + j * 5 + 3, none⟩ = some (.int .i64 x.long) ∧ w'.cell? ⟨b, off + j * 5 + 4, none⟩ = some K0)
              (first
                | exact ⟨c0, c1, c2, c3, c4⟩
                | (go_split_ands; first
                    | exact ⟨by assumption, by assumption, by assumption, by assumption, by assumption⟩
                    | exact OpCells.step ⟨by assumption, by assumption, by assumption, by assumption, by assumption⟩ hs4 (hs3.away (Nat.lt_of_lt_of_le hbl hs2.size) (hs2.away hbl hbm))
                    | exact OpCells.step ⟨by assumption, by assumption, by assumption, by assumption, by assumption⟩ hs3 (hs2.away hbl hbm)
                    | exact OpCells.step ⟨by assumption, by assumption, by assumption, by assumption, by assumption⟩ hs2 hbm))
              (first
                | (go_at_call 28; (with_reducible refine (law_data Dd.out x xok.out K0).mono ?_); rintro e w2 ⟨bb, rfl, hd2, hs2, hbb, hbn⟩)
                | (go_at_call 28; (with_reducible refine (law_data hd2 x xok.out K0).mono ?_); rintro e w3 ⟨bc, rfl, hd3, hs3, hbc, hbn3⟩)
                | (go_at_call 14; refine (law_write_all hd3 3 rfl OKP.out (q : Int) _ x.bit (HB.out _ _ _ (hbb.step hs3 hbn) (hs3.away hbb.lt hbn)) hwr.out).mono ?_; rintro e w4 ⟨rfl, M4, hd4, hs4⟩))
            obtain ⟨y3, hy3⟩ : ∃ y, w4 = y := ⟨_, rfl⟩
            obtain ⟨N3, hN3⟩ : ∃ N, M4 = N := ⟨_, rfl⟩
            rw [hy3] at hd4 hs4 ⊢
            rw [hN3] at hd4 hs4
            have E3 : Hid (Disks y3 w.heap.size N3 [(g, p2), (g1, s3), (g2, p2), (g3, p2)]) := by have := hd4; rw [HT.out] at this; exact this
            have hst := (((Step.refl N2 y2).drew.trans hs2).trans hs3).trans hs4
            have Y3 := Lib.hid hst
            clear hd2 hs2 hbb hbn hd3 hs3 hbc hbn3 hd4 hs4 hst Dd E2 hy3 hN3
            have R1 : Hid (∃ M', Disks y3 w.heap.size M' [(g, s1.puts (tornTo mops (j + 1))), (g1, s3), (g2, s1.puts (tornTo mops (j + 1))), (g3, s1.puts (tornTo mops (j + 1)))] ∧ Step M11 wz M' y3) := ⟨N3, by rw [HP2.out]; exact E3.out, ((S.out.trans Y1.out).trans Y2.out).trans Y3.out⟩
            clear E3 S Y1 Y2 Y3 HT OKP hwr HB HC BL V xok
            go_wp2
            go_roundw
            case rel => exact ⟨j + 1, by omega, by omega, by go_num, R1⟩
            case measure => simp [intOf]; omega
        · have T : Hid (Bytes wr M' (.slice a4 256 c4) s1.all) := T12.out.step S.out
          have S0 : Hid (Step NoB w M' wr) := S12.out.trans S.out
          have hU := U1.out.puts (tornTo mops j) (tornTo_ok mops j)
          have U := Lib.hid hU
          have hwl : (tornTo mops j).length ≤ 10 := Nat.le_trans (tornTo_length mops j) hj10
          have TA : Hid (((s1.puts (tornTo mops j)).back [64, 64, 64, 64, 64, 64, 64, 64, 64, 1099511627776]).all = (s1.puts (tornTo mops j)).flush.2.all) := torn_all U1.out _ (tornTo_ok mops j) _ (by simp; exact hwl) (by simp)
          have TN : Hid (((s1.puts (tornTo mops j)).back [-3]).all = s1.all) := torn_none U1.out _ (tornTo_ok mops j) (-3) (by omega)
          generalize s1.puts (tornTo mops j) = p1 at D U hU TA TN
          have UF : Hid (p1.flush.2.Up 0) := hU.flushed
          have HF : Hid (p1.flush = (0, p1.flush.2)) := by show _ = _; rw [hU.flush]
          have OKA : Hid ((p1.crash [64, 64, 64, 64, 64, 64, 64, 64, 64, 1099511627776]).Ok 4) := DS.crash_ok hU.ok _
          have UA : Hid ((p1.back [64, 64, 64, 64, 64, 64, 64, 64, 64, 1099511627776]).Up 0) := hU.back _
          have OKN : Hid ((p1.crash [-3]).Ok 4) := DS.crash_ok hU.ok _
          have UN : Hid ((p1.back [-3]).Up 0) := hU.back _
          clear hU HU R0 S MOK U1 hwl
          have hfin : (j < mops.length ∧ ¬ j < 10) ∨ ¬ j < mops.length := by
            by_cases h : j < mops.length
            · exact .inl ⟨h, fun h' => hlt ⟨h, h'⟩⟩
            · exact .inr h
          clear hlt
          rcases hfin with ⟨hl, h20⟩ | hl
          all_goals
            go_wp2_with (fail)
            refine (law_flush D.out 0 rfl U.out.ok).mono ?_
            rw [HF.out]
            rintro e w2 ⟨rfl, M2, hd, hs⟩
            have D2 : Hid (Disks w2 w.heap.size M2 [(g, p1.flush.2), (g1, s3), (g2, p1), (g3, p1)]) := hd
            have T2 := Lib.hid (T.out.step hs); have S2 := Lib.hid (S0.out.trans hs)
            clear hd hs D T S0
            have hal : Hid (Below w2.heap.size w2 (w2.alloc (.cells (([64, 64, 64, 64, 64, 64, 64, 64, 64, 1099511627776] : List Int).map (Value.int .i64)).toArray 3))) := (Below.refl _ _).alloc (Nat.le_refl _) _
            go_wp2_with (fail)
            refine (law_crash (D2.out.pure hal.out).1 2 rfl U.out.ok _ _ (ints_alloc (fun k hk => (D2.out.2.1 k hk).2) [64, 64, 64, 64, 64, 64, 64, 64, 64, 1099511627776] 10 rfl (by unfold maxLen; omega))).mono ?_
            rintro e w3 ⟨rfl, M3, hd, hs⟩
            have D3 : Hid (Disks w3 w.heap.size M3 [(g, p1.flush.2), (g1, s3), (g2, p1.crash [64, 64, 64, 64, 64, 64, 64, 64, 64, 1099511627776]), (g3, p1)]) := hd
            have hs' := (D2.out.pure hal.out).2.trans hs
            have T3 := Lib.hid (T2.out.step hs'); have S3 := Lib.hid (S2.out.trans hs')
            clear hd hs hs' D2 T2 S2 hal
            go_wp2_with (fail)
            refine (law_power D3.out 2 rfl).mono ?_
            rintro e w4 ⟨rfl, M4, hd, hs⟩
            have D4 : Hid (Disks w4 w.heap.size M4 [(g, p1.flush.2), (g1, s3), (g2, p1.back [64, 64, 64, 64, 64, 64, 64, 64, 64, 1099511627776]), (g3, p1)]) := hd
            have T4 := Lib.hid (T3.out.step hs); have S4 := Lib.hid (S3.out.trans hs)
            clear hd hs D3 T3 S3
            have hal : Hid (Below w4.heap.size w4 (w4.alloc (.cells #[.int .i64 (-3)] 3))) := (Below.refl _ _).alloc (Nat.le_refl _) _
            go_wp2_with (fail)
            refine (law_crash (D4.out.pure hal.out).1 3 rfl U.out.ok _ _ (ints_one (fun j hj => (D4.out.2.1 j hj).2) (-3))).mono ?_
            rintro e w5 ⟨rfl, M5, hd, hs⟩
            have D5 : Hid (Disks w5 w.heap.size M5 [(g, p1.flush.2), (g1, s3), (g2, p1.back [64, 64, 64, 64, 64, 64, 64, 64, 64, 1099511627776]), (g3, p1.crash [-3])]) := hd
            have hs' := (D4.out.pure hal.out).2.trans hs
            have T5 := Lib.hid (T4.out.step hs'); have S5 := Lib.hid (S4.out.trans hs')
            clear hd hs hs' D4 T4 S4 hal
            go_wp2_with (fail)
            refine (law_power D5.out 3 rfl).mono ?_
            rintro e w6 ⟨rfl, M6, hd, hs⟩
            have D6 : Hid (Disks w6 w.heap.size M6 [(g, p1.flush.2), (g1, s3), (g2, p1.back [64, 64, 64, 64, 64, 64, 64, 64, 64, 1099511627776]), (g3, p1.back [-3])]) := hd
            have T6 := Lib.hid (T5.out.step hs); have S6 := Lib.hid (S5.out.trans hs)
            clear hd hs D5 T5 S5
            go_wp2_with (fail)
            refine (law_contents D6.out 2 rfl UA.out.ok UA.out.down).mono ?_
            rintro e w7 ⟨v7, rfl, hd, hs, hbt⟩
            have D7 := Lib.hid hd; have T7 := Lib.hid (T6.out.step hs); have S7 := Lib.hid (S6.out.trans hs); have A7 := Lib.hid hbt
            clear hd hs hbt D6 T6 S6
            go_wp2_with (fail)
            refine (law_contents D7.out 0 rfl UF.out.ok UF.out.down).mono ?_
            rintro e w8 ⟨v8, rfl, hd, hs, hbt⟩
            have D8 := Lib.hid hd; have T8 := Lib.hid (T7.out.step hs); have S8 := Lib.hid (S7.out.trans hs); have A8 := Lib.hid (A7.out.step hs); have B8 := Lib.hid hbt
            clear hd hs hbt D7 T7 S7 A7
            go_wp2_with (fail)
            refine (law_same D8.out _ _ _ _ A8.out B8.out).mono ?_
            rw [sameB_true TA.out]
            rintro e w9 ⟨rfl, hd, hs⟩
            have D9 := Lib.hid hd; have T9 := Lib.hid (T8.out.step hs); have S9 := Lib.hid (S8.out.trans hs)
            clear hd hs D8 T8 S8 A8 B8
            go_wp2_with (fail)
            refine (law_contents D9.out 3 rfl UN.out.ok UN.out.down).mono ?_
            rintro e w10 ⟨v10, rfl, hd, hs, hbt⟩
            have D10 := Lib.hid hd; have T10 := Lib.hid (T9.out.step hs); have S10 := Lib.hid (S9.out.trans hs); have A10 := Lib.hid hbt
            clear hd hs hbt D9 T9 S9
            go_wp2_with (fail)
            refine (law_same D10.out _ _ _ s1.all A10.out (by have := T10.out; unfold Bytes; rw [hl4'.out]; unfold Bytes at this; rw [hl4'.out] at this; exact this)).mono ?_
            rw [sameB_true TN.out]
            rintro e w11 ⟨rfl, hd, hs⟩
            have S11 := Lib.hid (S10.out.trans hs)
            clear hd hs D10 T10 S10 A10
            go_wp2_with (fail)
            go_ret
            exact ⟨rfl, S11.out.below⟩

end Go.Proofs.Ythnolhcknhhipaa
