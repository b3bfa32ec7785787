/-
  DiskFuse: the walk.
  No condition.
-/
import Derived.Test.YthnolhcknhhipaaDkWrAll
namespace Go.Proofs.Ythnolhcknhhipaa
set_option linter.unusedVariables false
set_option linter.unusedSimpArgs false
open Go.RowKit

/-- A disk with a fuse set. -/
def DS.lit (s : DS) (f : Int) (ks : List Int) : DS := { s with fuse := f, kept := ks }

theorem DS.Up.lit_ready {s : DS} {m : Nat} (h : s.Up m) (f : Int) (ks : List Int) (hf : 2 ≤ f) : (s.lit f ks).ready = (0, s.lit (f - 1) ks) := by
  unfold DS.ready
  rw [if_neg (by show ¬ s.down = true; rw [h.down]; simp), if_neg (by show ¬ f = 1; omega)]
  show (0, DS.mk s.dur s.wr s.down (max (f - 1) 0) ks) = (0, DS.mk s.dur s.wr s.down (f - 1) ks)
  rw [show max (f - 1) 0 = f - 1 by omega]
theorem DS.Up.lit_flush {s : DS} {m : Nat} (h : s.Up m) (f : Int) (ks : List Int) (hf : 2 ≤ f) : (s.lit f ks).flush = (0, s.flush.2.lit (f - 1) ks) := by
  unfold DS.flush
  rw [h.lit_ready f ks hf, if_pos rfl, h.ready, if_pos rfl]; rfl
theorem DS.Up.lit_write {s : DS} {m : Nat} (h : s.Up m) (f : Int) (ks : List Int) (hf : 2 ≤ f) (x : Int) (data : List Int) : (s.lit f ks).write x data = (0, (s.write x data).2.lit (f - 1) ks) := by
  unfold DS.write
  rw [h.lit_ready f ks hf, if_pos rfl, h.ready, if_pos rfl]; rfl
theorem DS.Up.last_ready {s : DS} {m : Nat} (h : s.Up m) (ks : List Int) : (s.lit 1 ks).ready = (340, s.crash ks) := by
  unfold DS.ready
  rw [if_neg (by show ¬ s.down = true; rw [h.down]; simp), if_pos (by rfl), h.crash]
  unfold DS.crash
  rw [if_neg (by show ¬ s.down = true; rw [h.down]; simp)]; rfl
theorem DS.Up.last_flush {s : DS} {m : Nat} (h : s.Up m) (ks : List Int) : (s.lit 1 ks).flush = (340, s.crash ks) := by
  unfold DS.flush
  rw [h.last_ready ks, if_neg (by show ¬ (340 : Int) = 0; decide)]
theorem DS.Up.last_write {s : DS} {m : Nat} (h : s.Up m) (ks : List Int) (x : Int) (data : List Int) : (s.lit 1 ks).write x data = (340, s.crash ks) := by
  unfold DS.write
  rw [h.last_ready ks, if_neg (by show ¬ (340 : Int) = 0; decide)]
theorem DS.Up.lit_ok {s : DS} {m : Nat} (h : s.Up m) (f : Int) (ks : List Int) (h0 : 0 ≤ f) (h1 : f ≤ 9223372036854775807) (hk : ∀ y ∈ ks, -9223372036854775808 ≤ y ∧ y ≤ 9223372036854775807) : (s.lit f ks).Ok 4 :=
  ⟨h.ok.dur, h.ok.lo, h.ok.hi, h.ok.wr, h0, h1, hk⟩
theorem DS.Up.lit_all {s : DS} {m : Nat} (h : s.Up m) (f : Int) (ks : List Int) : (s.lit f ks).all = s.all := rfl
theorem DS.Up.crash_write {s : DS} {m : Nat} (h : s.Up m) (ks : List Int) (x : Int) (data : List Int) : (s.crash ks).write x data = (340, s.crash ks) := by
  unfold DS.write DS.ready
  rw [h.crash]; rfl
theorem DS.Up.crash_flush {s : DS} {m : Nat} (h : s.Up m) (ks : List Int) : (s.crash ks).flush = (340, s.crash ks) := by
  unfold DS.flush DS.ready
  rw [h.crash]; rfl

/-- The disk behind j operations more. -/
def stepTo (s : DS) (ms : List OpD) (j : Nat) : DS := (ms.take j).foldl DS.prep1 s
theorem stepTo_up {s : DS} {k : Nat} (h : s.Up k) (ms : List OpD) (j : Nat) : (stepTo s ms j).Up (k + j) := (foldl_up (ms.take j) h).mono (by simp; omega)
theorem stepTo_succ (s : DS) (ms : List OpD) (j : Nat) (h : j < ms.length) : stepTo s ms (j + 1) = (stepTo s ms j).prep1 ms[j] := by
  unfold stepTo; rw [take_snoc' _ _ h, List.foldl_append]; rfl

set_option maxRecDepth 100000 in
set_option maxHeartbeats 4000000 in
theorem fuse_walk (w : World) (v u K : Value) (y : Int) (ops mops : List OpD) (ks : List Int) (hv : OpsAt w NoB v ops) (hu : OpsAt w NoB u mops) (hk : Ints w NoB K ks) (hy0 : 0 ≤ y) (hy1 : y ≤ 255)
    (hks : ∀ y ∈ ks, -9223372036854775808 ≤ y ∧ y ≤ 9223372036854775807) (hkl : ks.length * 8 ≤ 140737488355328) :
    Calls Try.prog 7 #[.agg #[v, u, .int .u8 y, K]] w fun e w' => e = .returned (.bool true) ∧ Below w.heap.size w w' := by
  have hw0 : Below w.heap.size w (w.alloc (.cells #[v, u, .int .u8 y, K] 58)) := (Below.refl _ _).alloc (Nat.le_refl _) _
  have HV : Hid (OpsAt (w.alloc (.cells #[v, u, .int .u8 y, K] 58)) NoB v ops) := hv.step (Step.of_below hw0 NoB)
  have HU : Hid (OpsAt (w.alloc (.cells #[v, u, .int .u8 y, K] 58)) NoB u mops) := hu.step (Step.of_below hw0 NoB)
  have HK : Hid (Ints (w.alloc (.cells #[v, u, .int .u8 y, K] 58)) NoB K ks) := hk.step (Step.of_below hw0 NoB)
  have HB : Hid ((w.alloc (.cells #[v, u, .int .u8 y, K] 58)).heap[w.heap.size]? = some (.cells #[v, u, .int .u8 y, K] 58 (0, 0))) := heap_alloc_new w _
  have HKS := Lib.hid hks; have HKL := Lib.hid hkl
  clear hv hu hk hks hkl
  go_enter Try.func7, Try.ntmps7
  go_wp2_with (fail)
  obtain ⟨w0, hw0q⟩ : ∃ w0, w.alloc (.cells #[v, u, .int .u8 y, K] 58) = w0 := ⟨_, rfl⟩
  obtain ⟨bx, hbx⟩ : ∃ bx, w.heap.size = bx := ⟨_, rfl⟩
  rw [hw0q] at HV HU HK HB hw0 ⊢
  rw [hbx] at HB ⊢
  have W0 : Hid (Below w.heap.size w w0) := hw0
  clear hw0 hw0q hbx
  have X : Hid (∀ (M : Nat → Prop) (w' : World), Step NoB w0 M w' → w'.cell? ⟨bx, 0, none⟩ = some v ∧ w'.cell? ⟨bx, 1, none⟩ = some u ∧ w'.cell? ⟨bx, 2, none⟩ = some (.int .u8 y) ∧ w'.cell? ⟨bx, 3, none⟩ = some K) := by
    intro M w' hs
    have hc : ∀ i (z : Value), (#[v, u, .int .u8 y, K] : Array Value)[i]? = some z → w'.cell? ⟨bx, i, none⟩ = some z := fun i z hz => hs.cell (fun h => h) (by rw [cell_of_row w0 bx i _ _ _ HB.out]; exact hz)
    exact ⟨hc 0 _ rfl, hc 1 _ rfl, hc 2 _ rfl, hc 3 _ rfl⟩
  clear HB
  refine (sanity_any w0).mono ?_
  rintro e w1 ⟨rfl, hb⟩
  have D1 : Hid (Disks w1 w0.heap.size NoB []) := ((Disks.start w0).pure hb).1
  have S1 : Hid (Step NoB w0 NoB w1) := ((Disks.start w0).pure hb).2
  have V1 : Hid (OpsAt w1 NoB v ops) := HV.out.step S1.out
  clear hb
  obtain ⟨x0, x1, x2, x3⟩ := X.out _ _ S1.out
  go_wp2_with (fail)
  clear x0 x1 x2 x3
  refine (law_prepared D1.out v ops V1.out).mono ?_
  rintro e w2 ⟨g, rfl, M2, hd, hs⟩
  have D2 := Lib.hid hd; have S2 := Lib.hid (S1.out.trans hs)
  clear hd hs D1 S1 V1 HV
  have U : Hid ((prep ops).Up 20) := prep_up ops
  generalize hp : prep ops = s at D2 U
  clear hp
  have C1 : Hid (s.wr.length < 1073741824) := by have := U.out.wr; show _ < _; omega
  have C2 : Hid (s.kept.length * 8 ≤ 140737488355328) := by show _ ≤ _; rw [U.out.kept]; decide
  go_wp2_with (fail)
  refine (law_copy D2.out 0 rfl U.out.ok C1.out C2.out).mono ?_
  rintro e w3 ⟨g1, rfl, M3, hd, hs⟩
  have D3 : Hid (Disks w3 w0.heap.size M3 [(g, s), (g1, s)]) := hd
  have S3 := Lib.hid (S2.out.trans hs)
  clear hd hs D2 S2 C1 C2
  obtain ⟨x0, x1, x2, x3⟩ := X.out _ _ S3.out
  go_wp2_with (fail)
  clear x0 x1 x2 x3
  have Hk : Hid (1 ≤ 1 + y % 8 ∧ 1 + y % 8 ≤ 8) := ⟨by omega, by omega⟩
  generalize 1 + y % 8 = k at Hk ⊢
  have K3 : Hid (Ints w3 M3 K ks) := HK.out.step S3.out
  refine (law_fuse D3.out 0 rfl k K ks K3.out HKL.out).mono ?_
  rintro e w4 ⟨rfl, M4, hd, hs⟩
  have D4 : Hid (Disks w4 w0.heap.size M4 [(g, (stepTo s mops 0).lit (k - 0) ks), (g1, stepTo s mops 0)]) := by
    have h1 : max k 0 = k := by have := Hk.out; omega
    have := hd
    rw [h1] at this
    show Disks _ _ _ _
    simpa [DS.lit, stepTo] using this
  have S4 := Lib.hid (S3.out.trans hs)
  clear hd hs D3 S3 K3
  have hul : Hid (mops.length ≤ 9223372036854775807) := by
    obtain ⟨ao, cap, hv, hc, hm, -⟩ := HU.out; show _ ≤ _; unfold maxLen at hm; omega
  obtain ⟨ua, uc, rfl⟩ : ∃ ua uc, u = .slice ua mops.length uc := by obtain ⟨ao, cap, hv, -⟩ := HU.out; exact ⟨ao, cap, hv⟩
  have MOK : Hid (∀ y ∈ mops, y.Ok) := by obtain ⟨ao, cap, hv, hc, hm, hok, -⟩ := HU.out; exact hok
  clear hy0 hy1
  go_wp2_with (fail)
  go_loopw [9, 10] (fun d i wr => ∃ j : Nat, j ≤ mops.length ∧ j ≤ 12 ∧ (j : Int) < k ∧ d = .int .i64 j ∧ i = .int .i64 j ∧ Hid (∃ M', Disks wr w0.heap.size M' [(g, (stepTo s mops j).lit (k - j) ks), (g1, stepTo s mops j)] ∧ Step NoB w0 M' wr)) (fun _ i _ => 12 - (intOf i).toNat)
  case atStart => exact ⟨0, Nat.zero_le _, by omega, by have := Hk.out; omega, rfl, rfl, ⟨M4, D4.out, S4.out⟩⟩
  case round =>
    clear D4 S4
    obtain ⟨j, hj, hj12, hjk, rfl, rfl, RD⟩ := hrel
    obtain ⟨M', hd, hs⟩ := RD.out
    have D := Lib.hid hd; have S := Lib.hid hs
    clear hd hs RD
    have HJK := Lib.hid hjk; clear hjk
    by_cases hlt : j < mops.length ∧ j < 12
    · obtain ⟨hlt, h12⟩ := hlt
      obtain ⟨b, off, K0, rfl, -, -, hcell, -⟩ := HU.out.get j hlt
      obtain ⟨x, hx⟩ : ∃ x, mops[j] = x := ⟨_, rfl⟩
      rw [hx] at hcell
      have CE : Hid (∀ (M' : Nat → Prop) (w' : World), Step NoB w0 M' w' → OpCells w' b (off + j * 5) x K0) := fun _ _ hs => hcell.step hs (fun h => h)
      have xok := Lib.hid (MOK.out x (hx ▸ List.getElem_mem hlt))
      have HT : Hid (stepTo s mops (j + 1) = (stepTo s mops j).prep1 x) := by show _ = _; rw [stepTo_succ _ _ _ hlt, hx]
      have UC : Hid ((stepTo s mops j).Up (20 + j)) := stepTo_up U.out mops j
      clear hx hcell
      obtain ⟨c', hc'⟩ : ∃ c', stepTo s mops (j + 1) = c' := ⟨_, rfl⟩
      rw [hc'] at HT
      have HC' := Lib.hid hc'; clear hc'
      generalize stepTo s mops j = c at D HT UC
      have OKD : Hid ((c.lit (k - j) ks).Ok 4) := UC.out.lit_ok _ _ (by have := HJK.out; omega) (by have := Hk.out; omega) HKS.out
      have hj1 : (j : Int) < (mops.length : Int) := by omega
      have hj2 : (j : Int) < 12 := by omega
      have hj0 : (0 : Int) ≤ (j : Int) := Int.natCast_nonneg _
      have ht := tmod4_bd x.pos
      have htl := ht.1
      have htu := ht.2
      clear ht
      obtain ⟨q, hq⟩ : ∃ q : Nat, at4 x.pos = (q : Int) := ⟨(at4 x.pos).toNat, by have := at4_bd x.pos; omega⟩
      have Hq : Hid ((q : Int) < 4) := by have := at4_bd x.pos; show _ < _; omega
      have X4 : Hid ((x.pos.tmod 4 + 4) % 4 = (q : Int)) := by
        show _ = _
        rw [← hq]
        unfold at4
        exact (Int.tmod_eq_emod_of_nonneg (by omega)).symm
      have X5 : Hid (x.pos.tmod 4 % 4 = (q : Int)) := by have := X4.out; show _ = _; omega
      obtain ⟨ck, cp, cb, -, -⟩ := CE.out _ _ S.out
      go_wp2_with (fail)
      try rw [X4.out]
      try rw [X5.out]
      clear X4 X5 htl htu
      refine (law_write_bad D.out 0 rfl OKD.out (q : Int) none 0 0 (.inr (.inr (by decide)))).mono ?_
      rintro e w' ⟨rfl, rfl⟩
      have hk0 := xok.out.k0
      have hk1 := xok.out.k1
      have HWR : Hid (c.wr.length < 1073741824) := by have := UC.out.wr; show _ < _; omega
      have HWL : Hid ((c.lit (k - j) ks).wr.length < 1073741824) := HWR.out
      by_cases hkl : (j : Int) + 1 = k
      · have hf : k - (j : Int) = 1 := by omega
        have hkb : ((j : Int) + 1 == k) = true := by simp [hkl]
        have UB : Hid ((c.back ks).Up 0) := UC.out.back ks
        have OKC : Hid ((c.crash ks).Ok 4) := DS.crash_ok UC.out.ok ks
        by_cases h4 : x.kind % 10 = 4
        · have h1 := 1
          have h4' : (x.kind % 10 == 4) = true := by simp [h4]
          have HT' : Hid (c' = c.flush.2) := by show _ = _; rw [HT.out, DS.prep1, if_pos h4]
          clear h4 HT
          go_wp2_with (fail)
          refine (law_flush D.out 0 rfl OKD.out).mono ?_
          rw [show (c.lit (k - j) ks).flush = (340, c.crash ks) from by rw [hf]; exact UC.out.last_flush ks]
          rintro e w2 ⟨rfl, M2, hd, hs⟩
          have D2 : Hid (Disks w2 w0.heap.size M2 [(g, c.crash ks), (g1, c)]) := hd
          have S2 := Lib.hid (S.out.trans hs)
          clear hd hs D S ck cp cb
          have D2C := D2; have S2C := S2
          clear HT' OKD HWL HC'
          go_wp2_with (fail)
          refine (law_crash D2.out 1 rfl UC.out.ok K ks (HK.out.step S2.out)).mono ?_
          rintro e w3 ⟨rfl, M3, hd, hs⟩
          have D3 : Hid (Disks w3 w0.heap.size M3 [(g, c.crash ks), (g1, c.crash ks)]) := hd
          have S3 := Lib.hid (S2.out.trans hs)
          clear hd hs D2 S2 D2C S2C
          go_wp2_with (fail)
          refine (law_power D3.out 1 rfl).mono ?_
          rintro e w4 ⟨rfl, M4, hd, hs⟩
          have D4 : Hid (Disks w4 w0.heap.size M4 [(g, c.crash ks), (g1, c.back ks)]) := hd
          have S4 := Lib.hid (S3.out.trans hs)
          clear hd hs D3 S3
          go_wp2_with (fail)
          refine (law_filled D4.out 1).mono ?_
          rintro e w5 ⟨b5, rfl, hd, hs, hb, hn⟩
          have D5 := Lib.hid hd; have S5 := Lib.hid (S4.out.trans hs); have B5 := Lib.hid (hb.bytes64 hn (fill_length _))
          clear hd hs hb hn D4 S4
          go_wp2_with (fail)
          refine (law_write D5.out 0 rfl OKC.out 0 (by omega) (by omega) _ (fill 1) (fill_length _) B5.out (by rw [UC.out.crash]; exact (by decide : 0 < 1073741824))).mono ?_
          rw [UC.out.crash_write ks]
          rintro e w6 ⟨rfl, M6, hd, hs⟩
          have D6 : Hid (Disks w6 w0.heap.size M6 [(g, c.crash ks), (g1, c.back ks)]) := hd
          have S6 := Lib.hid (S5.out.trans hs)
          clear hd hs D5 S5 B5
          go_wp2_with (fail)
          refine (law_flush D6.out 0 rfl OKC.out).mono ?_
          rw [UC.out.crash_flush ks]
          rintro e w7 ⟨rfl, M7, hd, hs⟩
          have D7 : Hid (Disks w7 w0.heap.size M7 [(g, c.crash ks), (g1, c.back ks)]) := hd
          have S7 := Lib.hid (S6.out.trans hs)
          clear hd hs D6 S6
          have hcw : (c.crash ks).wr.length = 0 := by rw [UC.out.crash]; rfl
          go_wp2_with (fail)
          refine (law_pending D7.out 0 rfl).mono ?_
          rw [hcw]
          clear hcw
          rintro e w' ⟨rfl, rfl⟩
          go_wp2_with (fail)
          refine (law_power D7.out 0 rfl).mono ?_
          rintro e w8 ⟨rfl, M8, hd, hs⟩
          have D8 : Hid (Disks w8 w0.heap.size M8 [(g, c.back ks), (g1, c.back ks)]) := hd
          have S8 := Lib.hid (S7.out.trans hs)
          clear hd hs D7 S7 OKC
          generalize c.back ks = t at D8 UB
          go_wp2_with (fail)
          refine (law_contents D8.out 0 rfl UB.out.ok UB.out.down).mono ?_
          rintro e w9 ⟨v9, rfl, hd, hs, hbt⟩
          have D9 := Lib.hid hd; have S9 := Lib.hid (S8.out.trans hs); have A9 := Lib.hid hbt
          clear hd hs hbt D8 S8
          go_wp2_with (fail)
          refine (law_contents D9.out 1 rfl UB.out.ok UB.out.down).mono ?_
          rintro e w10 ⟨v10, rfl, hd, hs, hbt⟩
          have D10 := Lib.hid hd; have S10 := Lib.hid (S9.out.trans hs); have A10 := Lib.hid (A9.out.step hs); have B10 := Lib.hid hbt
          clear hd hs hbt D9 S9 A9
          go_wp2_with (fail)
          refine (law_same D10.out _ _ _ _ A10.out B10.out).mono ?_
          rw [sameB_true rfl]
          rintro e w11 ⟨rfl, hd, hs⟩
          have D11 := Lib.hid hd; have S11 := Lib.hid (S10.out.trans hs)
          clear hd hs D10 S10 A10 B10
          go_wp2_with (fail)
          refine (law_filled D11.out 1).mono ?_
          rintro e w12 ⟨b12, rfl, hd, hs, hb, hn⟩
          have D12 := Lib.hid hd; have S12 := Lib.hid (S11.out.trans hs); have B12 := Lib.hid (hb.bytes64 hn (fill_length _))
          clear hd hs hb hn D11 S11
          have U2 : Hid ((t.write 0 (fill 1)).2.Up 1) := UB.out.written 0 (by omega) (by omega) _ (fill_length _)
          have E2 : Hid (t.write 0 (fill 1) = (0, (t.write 0 (fill 1)).2)) := by show _ = _; rw [UB.out.write]
          go_wp2_with (fail)
          refine (law_write D12.out 0 rfl UB.out.ok 0 (by omega) (by omega) _ (fill 1) (fill_length _) B12.out (by have := UB.out.wr; omega)).mono ?_
          rw [E2.out]
          generalize (t.write 0 (fill 1)).2 = t2 at U2 ⊢
          rintro e w13 ⟨rfl, M13, hd, hs⟩
          have D13 : Hid (Disks w13 w0.heap.size M13 [(g, t2), (g1, t)]) := hd
          have S13 := Lib.hid (S12.out.trans hs)
          clear hd hs D12 S12 B12 E2
          go_wp2_with (fail)
          refine (law_flush D13.out 0 rfl U2.out.ok).mono ?_
          rw [show t2.flush = (0, t2.flush.2) from by rw [U2.out.flush]]
          rintro e w14 ⟨rfl, M14, hd, hs⟩
          have S14 := Lib.hid (S13.out.trans hs)
          clear hd hs D13 S13
          go_wp2_with (fail)
          go_ret
          exact ⟨rfl, W0.out.trans (S14.out.below.mono W0.out.size)⟩
        · have h1 := 1
          have h4' : (x.kind % 10 == 4) = false := by simp [h4]
          have HT' : Hid (c' = (c.write (q : Int) (fill x.byte)).2) := by show _ = _; rw [HT.out, DS.prep1, if_neg h4, hq]
          clear h4 HT
          go_wp2_with (fail)
          refine (law_filled D.out x.byte).mono ?_
          rintro e w1 ⟨b1, rfl, hd, hs, hb, hn⟩
          have S1 := Lib.hid (S.out.trans hs)
          have B1 := Lib.hid (hb.bytes64 hn (fill_length _))
          clear D S ck cp cb
          have D := Lib.hid hd
          have S := S1
          clear hd hs hb hn S1
          obtain ⟨ck, cp, cb, -, -⟩ := CE.out _ _ S.out
          go_wp2_with (fail)
          refine (law_write D.out 0 rfl OKD.out (q : Int) (by omega) Hq.out _ (fill x.byte) (fill_length _) B1.out HWL.out).mono ?_
          rw [show (c.lit (k - j) ks).write (q : Int) (fill x.byte) = (340, c.crash ks) from by rw [hf]; exact UC.out.last_write ks _ _]
          rintro e w2 ⟨rfl, M2, hd, hs⟩
          have D2 : Hid (Disks w2 w0.heap.size M2 [(g, c.crash ks), (g1, c)]) := hd
          have S2 := Lib.hid (S.out.trans hs)
          clear hd hs D S ck cp cb B1
          have D2C := D2; have S2C := S2
          clear HT' OKD HWL HC'
          go_wp2_with (fail)
          refine (law_crash D2.out 1 rfl UC.out.ok K ks (HK.out.step S2.out)).mono ?_
          rintro e w3 ⟨rfl, M3, hd, hs⟩
          have D3 : Hid (Disks w3 w0.heap.size M3 [(g, c.crash ks), (g1, c.crash ks)]) := hd
          have S3 := Lib.hid (S2.out.trans hs)
          clear hd hs D2 S2 D2C S2C
          go_wp2_with (fail)
          refine (law_power D3.out 1 rfl).mono ?_
          rintro e w4 ⟨rfl, M4, hd, hs⟩
          have D4 : Hid (Disks w4 w0.heap.size M4 [(g, c.crash ks), (g1, c.back ks)]) := hd
          have S4 := Lib.hid (S3.out.trans hs)
          clear hd hs D3 S3
          go_wp2_with (fail)
          refine (law_filled D4.out 1).mono ?_
          rintro e w5 ⟨b5, rfl, hd, hs, hb, hn⟩
          have D5 := Lib.hid hd; have S5 := Lib.hid (S4.out.trans hs); have B5 := Lib.hid (hb.bytes64 hn (fill_length _))
          clear hd hs hb hn D4 S4
          go_wp2_with (fail)
          refine (law_write D5.out 0 rfl OKC.out 0 (by omega) (by omega) _ (fill 1) (fill_length _) B5.out (by rw [UC.out.crash]; exact (by decide : 0 < 1073741824))).mono ?_
          rw [UC.out.crash_write ks]
          rintro e w6 ⟨rfl, M6, hd, hs⟩
          have D6 : Hid (Disks w6 w0.heap.size M6 [(g, c.crash ks), (g1, c.back ks)]) := hd
          have S6 := Lib.hid (S5.out.trans hs)
          clear hd hs D5 S5 B5
          go_wp2_with (fail)
          refine (law_flush D6.out 0 rfl OKC.out).mono ?_
          rw [UC.out.crash_flush ks]
          rintro e w7 ⟨rfl, M7, hd, hs⟩
          have D7 : Hid (Disks w7 w0.heap.size M7 [(g, c.crash ks), (g1, c.back ks)]) := hd
          have S7 := Lib.hid (S6.out.trans hs)
          clear hd hs D6 S6
          have hcw : (c.crash ks).wr.length = 0 := by rw [UC.out.crash]; rfl
          go_wp2_with (fail)
          refine (law_pending D7.out 0 rfl).mono ?_
          rw [hcw]
          clear hcw
          rintro e w' ⟨rfl, rfl⟩
          go_wp2_with (fail)
          refine (law_power D7.out 0 rfl).mono ?_
          rintro e w8 ⟨rfl, M8, hd, hs⟩
          have D8 : Hid (Disks w8 w0.heap.size M8 [(g, c.back ks), (g1, c.back ks)]) := hd
          have S8 := Lib.hid (S7.out.trans hs)
          clear hd hs D7 S7 OKC
          generalize c.back ks = t at D8 UB
          go_wp2_with (fail)
          refine (law_contents D8.out 0 rfl UB.out.ok UB.out.down).mono ?_
          rintro e w9 ⟨v9, rfl, hd, hs, hbt⟩
          have D9 := Lib.hid hd; have S9 := Lib.hid (S8.out.trans hs); have A9 := Lib.hid hbt
          clear hd hs hbt D8 S8
          go_wp2_with (fail)
          refine (law_contents D9.out 1 rfl UB.out.ok UB.out.down).mono ?_
          rintro e w10 ⟨v10, rfl, hd, hs, hbt⟩
          have D10 := Lib.hid hd; have S10 := Lib.hid (S9.out.trans hs); have A10 := Lib.hid (A9.out.step hs); have B10 := Lib.hid hbt
          clear hd hs hbt D9 S9 A9
          go_wp2_with (fail)
          refine (law_same D10.out _ _ _ _ A10.out B10.out).mono ?_
          rw [sameB_true rfl]
          rintro e w11 ⟨rfl, hd, hs⟩
          have D11 := Lib.hid hd; have S11 := Lib.hid (S10.out.trans hs)
          clear hd hs D10 S10 A10 B10
          go_wp2_with (fail)
          refine (law_filled D11.out 1).mono ?_
          rintro e w12 ⟨b12, rfl, hd, hs, hb, hn⟩
          have D12 := Lib.hid hd; have S12 := Lib.hid (S11.out.trans hs); have B12 := Lib.hid (hb.bytes64 hn (fill_length _))
          clear hd hs hb hn D11 S11
          have U2 : Hid ((t.write 0 (fill 1)).2.Up 1) := UB.out.written 0 (by omega) (by omega) _ (fill_length _)
          have E2 : Hid (t.write 0 (fill 1) = (0, (t.write 0 (fill 1)).2)) := by show _ = _; rw [UB.out.write]
          go_wp2_with (fail)
          refine (law_write D12.out 0 rfl UB.out.ok 0 (by omega) (by omega) _ (fill 1) (fill_length _) B12.out (by have := UB.out.wr; omega)).mono ?_
          rw [E2.out]
          generalize (t.write 0 (fill 1)).2 = t2 at U2 ⊢
          rintro e w13 ⟨rfl, M13, hd, hs⟩
          have D13 : Hid (Disks w13 w0.heap.size M13 [(g, t2), (g1, t)]) := hd
          have S13 := Lib.hid (S12.out.trans hs)
          clear hd hs D12 S12 B12 E2
          go_wp2_with (fail)
          refine (law_flush D13.out 0 rfl U2.out.ok).mono ?_
          rw [show t2.flush = (0, t2.flush.2) from by rw [U2.out.flush]]
          rintro e w14 ⟨rfl, M14, hd, hs⟩
          have S14 := Lib.hid (S13.out.trans hs)
          clear hd hs D13 S13
          go_wp2_with (fail)
          go_ret
          exact ⟨rfl, W0.out.trans (S14.out.below.mono W0.out.size)⟩
      · have hf : 2 ≤ k - (j : Int) := by have := HJK.out; omega
        have hkb : ((j : Int) + 1 == k) = false := by simp [hkl]
        by_cases h4 : x.kind % 10 = 4
        · have h1 := 1
          have h4' : (x.kind % 10 == 4) = true := by simp [h4]
          have HT' : Hid (c' = c.flush.2) := by show _ = _; rw [HT.out, DS.prep1, if_pos h4]
          clear h4 HT
          go_wp2_with (fail)
          refine (law_flush D.out 0 rfl OKD.out).mono ?_
          rw [show (c.lit (k - j) ks).flush = (0, c'.lit (k - j - 1) ks) from by rw [HT'.out]; exact UC.out.lit_flush _ _ hf]
          rintro e w2 ⟨rfl, M2, hd, hs⟩
          have D2 : Hid (Disks w2 w0.heap.size M2 [(g, c'.lit (k - j - 1) ks), (g1, c)]) := hd
          have S2 := Lib.hid (S.out.trans hs)
          clear hd hs D S ck cp cb
          obtain ⟨ck, cp, cb, -, -⟩ := CE.out _ _ S2.out
          go_wp2_with (fail)
          refine (law_flush D2.out 1 rfl UC.out.ok).mono ?_
          rintro e w3 ⟨rfl, M3, hd, hs⟩
          have R1 : Hid (∃ M', Disks w3 w0.heap.size M' [(g, (stepTo s mops (j + 1)).lit (k - ((j + 1 : Nat) : Int)) ks), (g1, stepTo s mops (j + 1))] ∧ Step NoB w0 M' w3) := by
            refine ⟨M3, ?_, S2.out.trans hs⟩
            rw [HC'.out, show k - ((j + 1 : Nat) : Int) = k - (j : Int) - 1 by omega]
            rw [← HT'.out] at hd
            exact hd
          clear hd hs D2 S2 HT' OKD HWL HC' UC xok CE
          go_wp2_with (fail)
          go_roundw
          case rel => exact ⟨j + 1, by omega, by omega, by omega, by go_num, by go_num, R1⟩
          case measure => simp [intOf]; omega
        · have h1 := 1
          have h4' : (x.kind % 10 == 4) = false := by simp [h4]
          have HT' : Hid (c' = (c.write (q : Int) (fill x.byte)).2) := by show _ = _; rw [HT.out, DS.prep1, if_neg h4, hq]
          clear h4 HT
          go_wp2_with (fail)
          refine (law_filled D.out x.byte).mono ?_
          rintro e w1 ⟨b1, rfl, hd, hs, hb, hn⟩
          have S1 := Lib.hid (S.out.trans hs)
          have B1 := Lib.hid (hb.bytes64 hn (fill_length _))
          clear D S ck cp cb
          have D := Lib.hid hd
          have S := S1
          clear hd hs hb hn S1
          obtain ⟨ck, cp, cb, -, -⟩ := CE.out _ _ S.out
          go_wp2_with (fail)
          refine (law_write D.out 0 rfl OKD.out (q : Int) (by omega) Hq.out _ (fill x.byte) (fill_length _) B1.out HWL.out).mono ?_
          rw [show (c.lit (k - j) ks).write (q : Int) (fill x.byte) = (0, c'.lit (k - j - 1) ks) from by rw [HT'.out]; exact UC.out.lit_write _ _ hf _ _]
          rintro e w2 ⟨rfl, M2, hd, hs⟩
          have D2 : Hid (Disks w2 w0.heap.size M2 [(g, c'.lit (k - j - 1) ks), (g1, c)]) := hd
          have S2 := Lib.hid (S.out.trans hs)
          clear hd hs D S ck cp cb B1
          obtain ⟨ck, cp, cb, -, -⟩ := CE.out _ _ S2.out
          go_wp2_with (fail)
          refine (law_filled D2.out x.byte).mono ?_
          rintro e w4 ⟨b4, rfl, hd, hs, hb, hn⟩
          have S4 := Lib.hid (S2.out.trans hs)
          have B4 := Lib.hid (hb.bytes64 hn (fill_length _))
          clear D2 S2 ck cp cb
          have D2 := Lib.hid hd
          have S2 := S4
          clear hd hs hb hn S4
          go_wp2_with (fail)
          refine (law_write D2.out 1 rfl UC.out.ok (q : Int) (by omega) Hq.out _ (fill x.byte) (fill_length _) B4.out HWR.out).mono ?_
          rintro e w3 ⟨rfl, M3, hd, hs⟩
          have R1 : Hid (∃ M', Disks w3 w0.heap.size M' [(g, (stepTo s mops (j + 1)).lit (k - ((j + 1 : Nat) : Int)) ks), (g1, stepTo s mops (j + 1))] ∧ Step NoB w0 M' w3) := by
            refine ⟨M3, ?_, S2.out.trans hs⟩
            rw [HC'.out, show k - ((j + 1 : Nat) : Int) = k - (j : Int) - 1 by omega]
            rw [← HT'.out] at hd
            exact hd
          clear hd hs D2 S2 HT' OKD HWL HC' UC xok CE
          go_wp2_with (fail)
          go_roundw
          case rel => exact ⟨j + 1, by omega, by omega, by omega, by go_num, by go_num, R1⟩
          case measure => simp [intOf]; omega
    · have UC : Hid ((stepTo s mops j).Up (20 + j)) := stepTo_up U.out mops j
      generalize stepTo s mops j = c at D UC
      have OKD : Hid ((c.lit (k - j) ks).Ok 4) := UC.out.lit_ok _ _ (by have := HJK.out; omega) (by have := Hk.out; omega) HKS.out
      have hfin : (j < mops.length ∧ ¬ j < 12) ∨ ¬ j < mops.length := by
        by_cases h : j < mops.length
        · exact .inl ⟨h, fun h' => hlt ⟨h, h'⟩⟩
        · exact .inr h
      clear hlt
      rcases hfin with ⟨hl, h20⟩ | hl
      all_goals
        go_wp2_with (fail)
        refine (law_contents D.out 0 rfl OKD.out UC.out.down).mono ?_
        rintro e w9 ⟨v9, rfl, hd, hs, hbt⟩
        have D9 := Lib.hid hd; have S9 := Lib.hid (S.out.trans hs); have A9 := Lib.hid hbt
        clear hd hs hbt D S
        go_wp2_with (fail)
        refine (law_contents D9.out 1 rfl UC.out.ok UC.out.down).mono ?_
        rintro e w10 ⟨v10, rfl, hd, hs, hbt⟩
        have D10 := Lib.hid hd; have S10 := Lib.hid (S9.out.trans hs); have A10 := Lib.hid (A9.out.step hs); have B10 := Lib.hid hbt
        clear hd hs hbt D9 S9 A9
        go_wp2_with (fail)
        refine (law_same D10.out _ _ _ _ A10.out B10.out).mono ?_
        rw [sameB_true (UC.out.lit_all _ _)]
        rintro e w11 ⟨rfl, hd, hs⟩
        have S11 := Lib.hid (S10.out.trans hs)
        clear hd hs D10 S10 A10 B10
        go_wp2_with (fail)
        go_ret
        exact ⟨rfl, W0.out.trans (S11.out.below.mono W0.out.size)⟩

end Go.Proofs.Ythnolhcknhhipaa
