/-
  DiskReads: the walk.
  No condition.
-/
import Derived.Test.YthnolhcknhhipaaDkPlain
import Derived.Test.YthnolhcknhhipaaDkSanity
namespace Go.Proofs.Ythnolhcknhhipaa
set_option linter.unusedVariables false
set_option linter.unusedSimpArgs false
open Go.RowKit

set_option maxHeartbeats 2000000 in
theorem reads_walk (w : World) (v : Value) (ops : List OpD) (hv : OpsAt w NoB v ops) (x y : Int) (hx0 : 0 ≤ x) (hx1 : x ≤ 255) :
    Calls Try.prog 3 #[v, .int .u8 x, .int .u8 y] w fun e w' => e = .returned (.bool true) ∧ Below w.heap.size w w' := by
  have HV := Lib.hid hv; clear hv
  go_enter Try.func3, Try.ntmps3
  go_wp2_with (fail)
  refine (sanity_any w).mono ?_
  rintro e w1 ⟨rfl, hb⟩
  have D1 : Hid (Disks w1 w.heap.size NoB []) := ((Disks.start w).pure hb).1
  have S1 : Hid (Step NoB w NoB w1) := ((Disks.start w).pure hb).2
  have V1 : Hid (OpsAt w1 NoB v ops) := HV.out.step S1.out
  clear hb
  go_wp2_with (fail)
  refine (law_prepared D1.out v ops V1.out).mono ?_
  rintro e w2 ⟨g, rfl, M2, hd, hs⟩
  have D2 := Lib.hid hd; have S2 := Lib.hid (S1.out.trans hs)
  clear hd hs D1 S1 V1
  have U : Hid ((prep ops).Up 20) := prep_up ops
  generalize hp : prep ops = s at D2 U
  clear hp
  go_wp2_with (fail)
  refine (law_contents D2.out 0 rfl U.out.ok U.out.down).mono ?_
  rintro e w3 ⟨v3, rfl, hd, hs, hbt⟩
  have D3 := Lib.hid hd; have S3 := Lib.hid (S2.out.trans hs); have T3 := Lib.hid hbt
  clear hd hs hbt D2 S2
  go_wp2_with (fail)
  have Hk : Hid (0 ≤ x % 4 ∧ x % 4 < 4) := ⟨by omega, by omega⟩
  clear hx0 hx1
  generalize x % 4 = k at Hk ⊢
  refine (law_pending D3.out 0 rfl).mono ?_
  rintro e w' ⟨rfl, rfl⟩
  go_wp2_with (fail)
  refine (law_filled D3.out y).mono ?_
  rintro e w4 ⟨b4, rfl, hd, hs, hb, hn⟩
  have D4 := Lib.hid hd; have S4 := Lib.hid (S3.out.trans hs); have B4 := Lib.hid (hb.bytes64 hn (fill_length _)); have T4 := Lib.hid (T3.out.step hs)
  clear hd hs hb hn D3 S3 T3
  go_wp2_with (fail)
  refine (law_write D4.out 0 rfl U.out.ok k Hk.out.1 Hk.out.2 _ (fill y) (fill_length _) B4.out (by have := U.out.wr; omega)).mono ?_
  have hw : Hid (s.write k (fill y) = (0, (s.write k (fill y)).2)) := by show _ = _; rw [U.out.write]
  have hp : Hid ((s.write k (fill y)).2.wr.length = s.wr.length + 1) := by show _ = _; rw [U.out.write]; simp
  have hr : Hid (∀ j, (s.write k (fill y)).2.read j = if k = j then fill y else s.read j) := fun j => U.out.read_write k (fill y) j
  have U2 : Hid ((s.write k (fill y)).2.Up 21) := U.out.written k Hk.out.1 Hk.out.2 (fill y) (fill_length _)
  rw [hw.out]
  generalize (s.write k (fill y)).2 = s2 at hp hr U2 ⊢
  clear hw
  rintro e w5 ⟨rfl, M5, hd, hs⟩
  have D5 : Hid (Disks w5 w.heap.size M5 [(g, s2)]) := hd
  have S5 := Lib.hid (S4.out.trans hs); have T5 := Lib.hid (T4.out.step hs)
  clear hd hs D4 S4 T4 B4
  go_wp2_with (fail)
  refine (law_read D5.out 0 rfl U2.out.ok k Hk.out.1 Hk.out.2 U2.out.down).mono ?_
  have hrk : Hid (s2.read k.toNat = fill y) := by
    show _ = _
    rw [hr.out, if_pos (by have := Hk.out; omega)]
  rw [hrk.out]
  rintro e w6 ⟨b6, rfl, hd, hs, hb, -, hn⟩
  have D6 := Lib.hid hd; have S6 := Lib.hid (S5.out.trans hs); have T6 := Lib.hid (T5.out.step hs); have B6 := Lib.hid (hb.bytes64 hn (fill_length _))
  clear hd hs hb hn D5 S5 T5
  go_wp2_with (fail)
  refine (law_contents D6.out 0 rfl U2.out.ok U2.out.down).mono ?_
  rintro e w7 ⟨v7, rfl, hd, hs, hbt⟩
  have D7 := Lib.hid hd; have S7 := Lib.hid (S6.out.trans hs); have T7 := Lib.hid (T6.out.step hs); have B7 := Lib.hid (B6.out.step hs); have R7 := Lib.hid hbt
  clear hd hs hbt D6 S6 T6 B6
  go_wp2_with (fail)
  refine (law_pending D7.out 0 rfl).mono ?_
  rw [show ((s2.wr.length : Nat) : Int) = (s.wr.length : Int) + 1 from by have := hp.out; omega]
  rintro e w' ⟨rfl, rfl⟩
  go_wp2_with (fail)
  refine (law_flush D7.out 0 rfl U2.out.ok).mono ?_
  have hf : Hid (s2.flush = (0, s2.flush.2)) := by show _ = _; rw [U2.out.flush]
  have hfa : Hid (s2.flush.2.all = s2.all) := U2.out.all_flush
  have hfp : Hid (s2.flush.2.wr.length = 0) := by show _ = _; rw [U2.out.flush]; rfl
  have U3 : Hid (s2.flush.2.Up 0) := U2.out.flushed
  rw [hf.out]
  generalize s2.flush.2 = s3 at hfa hfp U3 ⊢
  clear hf
  rintro e w8 ⟨rfl, M8, hd, hs⟩
  have D8 : Hid (Disks w8 w.heap.size M8 [(g, s3)]) := hd
  have S8 := Lib.hid (S7.out.trans hs); have T8 := Lib.hid (T7.out.step hs); have B8 := Lib.hid (B7.out.step hs); have R8 := Lib.hid (R7.out.step hs)
  clear hd hs D7 S7 T7 B7 R7
  obtain ⟨a3, c3, rfl, -, hc3⟩ := T8.out.form
  obtain ⟨a7, c7, rfl, -, hc7⟩ := R8.out.form
  have hl3 := DS.all_length U.out.ok
  have hl7 := DS.all_length U2.out.ok
  have A3 := Lib.hid hc3; have A7 := Lib.hid hc7
  clear hc3 hc7
  have HL3 := Lib.hid hl3; have HL7 := Lib.hid hl7
  simp only [hl3, hl7] at T8 R8 A3 A7 ⊢
  have OK := Lib.hid U.out.ok; have OK2 := Lib.hid U2.out.ok
  have hn0 : (0 : Int) ≤ (s.wr.length : Int) := by omega
  have hn1 : (s.wr.length : Int) ≤ 20 := by have := U.out.wr; omega
  go_wp2_with (fail)
  go_loopw [18] (fun i wr => ∃ j : Nat, j ≤ 256 ∧ i = .int .i64 j ∧ Hid (Below w8.heap.size w8 wr)) (fun i _ => 256 - (intOf i).toNat)
  case atStart => exact ⟨0, by omega, rfl, Below.refl _ _⟩
  case round =>
    obtain ⟨j, hj, rfl, RW⟩ := hrel
    by_cases hlt : j < 256
    · have RS : Hid (Step M8 w8 M8 wr) := Step.of_below RW.out M8
      have hj0 : (0 : Int) ≤ (j : Int) := by omega
      have hj1 : (j : Int) < 256 := by omega
      have hq0 : (0 : Int) ≤ (j : Int) / 64 := by omega
      have hq1 : (j : Int) / 64 < 4 := by omega
      by_cases hq : (j : Int) / 64 = k
      · have e1 : ((j : Int) / 64 == k) = true := by simp [hq]
        have e2 : ((j : Int) / 64 != k) = false := by simp [hq]
        clear hq
        go_wp2_with (fail)
        go_quiet (fail)
        go_wp2
        go_roundw
        case rel => exact ⟨j + 1, by omega, by go_num, Below.drewN RW.out _⟩
        case measure => simp [intOf]; omega
      · have e1 : ((j : Int) / 64 == k) = false := by simp [hq]
        have e2 : ((j : Int) / 64 != k) = true := by simp [hq]
        obtain ⟨b1, o1, rfl, q1, n1, c1⟩ := A3.out j hlt
        obtain ⟨b2, o2, rfl, q2, n2, c2⟩ := A7.out j hlt
        have heq : Hid (s2.all[j]'(by rw [HL7.out]; exact hlt) = s.all[j]'(by rw [HL3.out]; exact hlt)) := by
          show _ = _
          rw [DS.all_get' OK2.out, DS.all_get' OK.out, hr.out, if_neg (by omega)]
        rw [heq.out] at c2
        have c1' := RS.out.cell n1 c1
        have c2' := RS.out.cell n2 c2
        clear hq heq
        go_wp2_with (fail)
        go_quiet (fail)
        go_wp2
        go_roundw
        case rel => exact ⟨j + 1, by omega, by go_num, Below.drewN RW.out _⟩
        case measure => simp [intOf]; omega
    · obtain rfl : j = 256 := by omega
      clear hlt
      have DE : Hid (Disks wr w.heap.size M8 [(g, s3)]) := (D8.out.pure RW.out).1
      have SE : Hid (Step NoB w M8 wr) := S8.out.trans (D8.out.pure RW.out).2
      have BE := Lib.hid (B8.out.step (D8.out.pure RW.out).2)
      have RE := Lib.hid (R8.out.step (D8.out.pure RW.out).2)
      clear D8 S8 B8 R8 RW A3 A7 T8
      go_wp2_with (fail)
      refine (law_filled DE.out y).mono ?_
      rintro e w9 ⟨b9, rfl, hd, hs, hb, hn⟩
      have D9 := Lib.hid hd; have S9 := Lib.hid (SE.out.trans hs); have C9 := Lib.hid (hb.bytes64 hn (fill_length _)); have B9 := Lib.hid (BE.out.step hs); have R9 := Lib.hid (RE.out.step hs)
      clear hd hs hb hn DE SE BE RE
      go_wp2_with (fail)
      refine (law_same D9.out _ _ _ _ B9.out C9.out).mono ?_
      rw [sameB_true rfl]
      rintro e w10 ⟨rfl, hd, hs⟩
      have D10 := Lib.hid hd; have S10 := Lib.hid (S9.out.trans hs); have R10 := Lib.hid (R9.out.step hs)
      clear hd hs D9 S9 B9 C9 R9
      go_wp2_with (fail)
      refine (law_contents D10.out 0 rfl U3.out.ok U3.out.down).mono ?_
      rintro e w11 ⟨v11, rfl, hd, hs, hbt⟩
      have D11 := Lib.hid hd; have S11 := Lib.hid (S10.out.trans hs); have R11 := Lib.hid (R10.out.step hs); have C11 := Lib.hid hbt
      clear hd hs hbt D10 S10 R10
      go_wp2_with (fail)
      refine (law_same D11.out _ _ _ _ C11.out R11.out).mono ?_
      rw [sameB_true hfa.out]
      rintro e w12 ⟨rfl, hd, hs⟩
      have D12 := Lib.hid hd; have S12 := Lib.hid (S11.out.trans hs)
      clear hd hs D11 S11 C11 R11
      go_wp2_with (fail)
      refine (law_pending D12.out 0 rfl).mono ?_
      rw [hfp.out]
      rintro e w' ⟨rfl, rfl⟩
      go_wp2_with (fail)
      go_ret
      exact ⟨rfl, S12.out.below⟩

end Go.Proofs.Ythnolhcknhhipaa
