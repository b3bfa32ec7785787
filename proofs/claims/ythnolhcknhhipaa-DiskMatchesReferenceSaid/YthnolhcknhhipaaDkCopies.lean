/-
  DiskCopies: the walk.
  Condition: the numbers to be kept fit into 2^47 bytes.
-/
import Derived.Test.YthnolhcknhhipaaDkDo
namespace Go.Proofs.Ythnolhcknhhipaa
set_option linter.unusedVariables false
set_option linter.unusedSimpArgs false
open Go.RowKit

theorem DS.crash_wr (s : DS) (ks : List Int) : (s.crash ks).wr.length ≤ s.wr.length := by unfold DS.crash; split <;> simp
theorem DS.ready_wr (s : DS) : s.ready.2.wr.length ≤ s.wr.length := by
  unfold DS.ready
  split
  · exact Nat.le_refl _
  · split
    · exact DS.crash_wr _ _
    · exact Nat.le_refl _
theorem DS.op_wr (n : Nat) (s : DS) (x : OpD) : (s.op n x).2.wr.length ≤ s.wr.length + 1 := by
  have h := DS.ready_wr s
  have hw : ∀ k data, (s.write k data).2.wr.length ≤ s.wr.length + 1 := by
    intro k data; unfold DS.write; split
    · simp; omega
    · omega
  unfold DS.op
  repeat' split
  · unfold DS.flush; split
    · simp
    · omega
  · have := DS.crash_wr s x.kept; show (s.crash x.kept).wr.length ≤ _; omega
  · exact Nat.le_succ _
  · exact Nat.le_succ _
  · exact Nat.le_succ _
  · exact Nat.le_succ _
  · unfold DS.writeAny; split
    · exact hw _ _
    · exact Nat.le_succ _
theorem DS.crash_kept (s : DS) (ks : List Int) : (s.crash ks).kept.length ≤ s.kept.length := by unfold DS.crash; split <;> simp
theorem DS.ready_kept (s : DS) : s.ready.2.kept.length ≤ s.kept.length := by
  unfold DS.ready
  split
  · exact Nat.le_refl _
  · split
    · exact DS.crash_kept _ _
    · exact Nat.le_refl _
theorem DS.op_kept (n : Nat) (s : DS) (x : OpD) (C : Nat) (h1 : s.kept.length * 8 ≤ C) (h2 : x.kept.length * 8 ≤ C) : (s.op n x).2.kept.length * 8 ≤ C := by
  have h := DS.ready_kept s
  have hw : ∀ k data, (s.write k data).2.kept.length ≤ s.kept.length := by
    intro k data; unfold DS.write; split
    · exact h
    · exact h
  unfold DS.op
  repeat' split
  · unfold DS.flush; split
    · show s.ready.2.kept.length * 8 ≤ C; omega
    · omega
  · have := DS.crash_kept s x.kept; show (s.crash x.kept).kept.length * 8 ≤ _; omega
  · exact h1
  · exact h2
  · exact h1
  · exact h1
  · unfold DS.writeAny; split
    · have := hw x.pos x.data; omega
    · exact h1

/-- The disk behind j operations of any kind. -/
def opsTo (n : Nat) (s : DS) (ms : List OpD) (j : Nat) : DS := (ms.take j).foldl (fun s x => (s.op n x).2) s
theorem opsTo_succ (n : Nat) (s : DS) (ms : List OpD) (j : Nat) (h : j < ms.length) : opsTo n s ms (j + 1) = ((opsTo n s ms j).op n ms[j]).2 := by
  unfold opsTo; rw [take_snoc' _ _ h, List.foldl_append]; rfl
theorem opsTo_ok {n : Nat} {s : DS} (ok : s.Ok n) (ms : List OpD) (hm : ∀ y ∈ ms, y.Ok) : ∀ j, j ≤ ms.length → (opsTo n s ms j).Ok n
  | 0, _ => ok
  | j + 1, h => by
    rw [opsTo_succ _ _ _ _ (by omega)]
    exact DS.op_ok (opsTo_ok ok ms hm j (by omega)) _ (hm _ (List.getElem_mem _))
theorem opsTo_wr {n : Nat} {s : DS} (ms : List OpD) : ∀ j, j ≤ ms.length → (opsTo n s ms j).wr.length ≤ s.wr.length + j
  | 0, _ => Nat.le_refl _
  | j + 1, h => by
    rw [opsTo_succ _ _ _ _ (by omega)]
    have h1 := opsTo_wr (n := n) (s := s) ms j (by omega)
    have h2 := DS.op_wr n (opsTo n s ms j) ms[j]
    omega
theorem opsTo_kept {n : Nat} {s : DS} (ms : List OpD) (C : Nat) (h0 : s.kept.length * 8 ≤ C) (hm : ∀ y ∈ ms, y.kept.length * 8 ≤ C) : ∀ j, j ≤ ms.length → (opsTo n s ms j).kept.length * 8 ≤ C
  | 0, _ => h0
  | j + 1, h => by
    rw [opsTo_succ _ _ _ _ (by omega)]
    exact DS.op_kept n _ _ C (opsTo_kept ms C h0 hm j (by omega)) (hm _ (List.getElem_mem _))

set_option maxRecDepth 100000 in
set_option maxHeartbeats 4000000 in
theorem copies_walk (w : World) (v u K : Value) (ops mops : List OpD) (ks : List Int) (hv : OpsAt w NoB v ops) (hu : OpsAt w NoB u mops) (hk : Ints w NoB K ks) (hml : ∀ y ∈ mops, y.kept.length * 8 ≤ 140737488355328) :
    Calls Try.prog 8 #[v, u, K] w fun e w' => e = .returned (.bool true) ∧ Below w.heap.size w w' := by
  have HV := Lib.hid hv; clear hv
  have HU := Lib.hid hu; clear hu
  have HK := Lib.hid hk; clear hk
  have HML := Lib.hid hml; clear hml
  go_enter Try.func8, Try.ntmps8
  go_wp2_with (fail)
  refine (sanity_any w).mono ?_
  rintro e w1 ⟨rfl, hb⟩
  have D1 : Hid (Disks w1 w.heap.size NoB []) := ((Disks.start w).pure hb).1
  have S1 : Hid (Step NoB w NoB w1) := ((Disks.start w).pure hb).2
  have V1 : Hid (OpsAt w1 NoB v ops) := HV.out.step S1.out
  clear hb
  go_wp2_with (fail)
  refine (law_prepared D1.out v ops V1.out).mono ?_
  rintro e w2 ⟨g, rfl, M2, hd, hs⟩
  have D2 := Lib.hid hd; have S2 := Lib.hid (S1.out.trans hs)
  clear hd hs D1 S1 V1
  have U : Hid ((prep ops).Up 20) := prep_up ops
  generalize hp : prep ops = s at D2 U
  clear hp
  go_wp2_with (fail)
  refine (law_contents D2.out 0 rfl U.out.ok U.out.down).mono ?_
  rintro e w3 ⟨v3, rfl, hd, hs, hbt⟩
  have D3 := Lib.hid hd; have S3 := Lib.hid (S2.out.trans hs); have T3 := Lib.hid hbt
  clear hd hs hbt D2 S2
  go_wp2_with (fail)
  refine (law_pending D3.out 0 rfl).mono ?_
  rintro e w' ⟨rfl, rfl⟩
  have C1 : Hid (s.wr.length < 1073741824) := by have := U.out.wr; show _ < _; omega
  have C2 : Hid (s.kept.length * 8 ≤ 140737488355328) := by show _ ≤ _; rw [U.out.kept]; exact (by decide : 0 * 8 ≤ 140737488355328)
  go_wp2_with (fail)
  refine (law_copy D3.out 0 rfl U.out.ok C1.out C2.out).mono ?_
  rintro e w4 ⟨g1, rfl, M4, hd, hs⟩
  have D4 : Hid (Disks w4 w.heap.size M4 [(g, s), (g1, s)]) := hd
  have S4 := Lib.hid (S3.out.trans hs); have T4 := Lib.hid (T3.out.step hs)
  clear hd hs D3 S3 T3
  go_wp2_with (fail)
  refine (law_copy D4.out 0 rfl U.out.ok C1.out C2.out).mono ?_
  rintro e w5 ⟨g2, rfl, M5, hd, hs⟩
  have D5 : Hid (Disks w5 w.heap.size M5 [(g, s), (g1, s), (g2, s)]) := hd
  have S5 := Lib.hid (S4.out.trans hs); have T5 := Lib.hid (T4.out.step hs)
  clear hd hs D4 S4 T4
  go_wp2_with (fail)
  refine (law_contents D5.out 1 rfl U.out.ok U.out.down).mono ?_
  rintro e w6 ⟨v6, rfl, hd, hs, hbt⟩
  have D6 := Lib.hid hd; have S6 := Lib.hid (S5.out.trans hs); have T6 := Lib.hid (T5.out.step hs); have A6 := Lib.hid hbt
  clear hd hs hbt D5 S5 T5
  go_wp2_with (fail)
  refine (law_same D6.out _ _ _ _ A6.out T6.out).mono ?_
  rw [sameB_true rfl]
  rintro e w7 ⟨rfl, hd, hs⟩
  have D7 := Lib.hid hd; have S7 := Lib.hid (S6.out.trans hs); have T7 := Lib.hid (T6.out.step hs)
  clear hd hs D6 S6 T6 A6
  go_wp2_with (fail)
  refine (law_pending D7.out 1 rfl).mono ?_
  rintro e w' ⟨rfl, rfl⟩
  have R0 : Hid (∃ M', Disks w7 w.heap.size M' [(g, s), (g1, opsTo 4 s mops 0), (g2, opsTo 4 s mops 0)] ∧ Step M5 w7 M' w7) := ⟨M5, D7.out, Step.refl _ _⟩
  have hul : Hid (mops.length ≤ 9223372036854775807) := by
    obtain ⟨ao, cap, hv, hc, hm, -⟩ := HU.out; show _ ≤ _; unfold maxLen at hm; omega
  obtain ⟨ua, uc, rfl⟩ : ∃ ua uc, u = .slice ua mops.length uc := by obtain ⟨ao, cap, hv, -⟩ := HU.out; exact ⟨ao, cap, hv⟩
  have MOK : Hid (∀ y ∈ mops, y.Ok) := by obtain ⟨ao, cap, hv, hc, hm, hok, -⟩ := HU.out; exact hok
  go_wp2_with (fail)
  go_loopw [11, 12, 13] (fun c t i wr => ∃ (j : Nat) (gc gt : Nat), j ≤ mops.length ∧ j ≤ 20 ∧ c = .pointer (some ⟨gc, 0, none⟩) ∧ t = .pointer (some ⟨gt, 0, none⟩) ∧ i = .int .i64 j ∧ Hid (∃ M', Disks wr w.heap.size M' [(g, s), (gc, opsTo 4 s mops j), (gt, opsTo 4 s mops j)] ∧ Step M5 w7 M' wr)) (fun _ _ i _ => 20 - (intOf i).toNat)
  case atStart => exact ⟨0, g1, g2, Nat.zero_le _, by omega, rfl, rfl, rfl, R0⟩
  case round =>
    clear R0 D7
    obtain ⟨j, gc, gt, hj, hj20, rfl, rfl, rfl, RD⟩ := hrel
    obtain ⟨M', hd, hs⟩ := RD.out
    have D := Lib.hid hd; have S := Lib.hid hs
    clear hd hs RD
    have OKJ : Hid ((opsTo 4 s mops j).Ok 4) := opsTo_ok U.out.ok mops MOK.out j hj
    by_cases hlt : j < mops.length ∧ j < 20
    · obtain ⟨hlt, h20⟩ := hlt
      obtain ⟨b, off, K0, rfl, -, -, hcell, hkp⟩ := HU.out.get j hlt
      obtain ⟨x, hx⟩ : ∃ x, mops[j] = x := ⟨_, rfl⟩
      rw [hx] at hcell hkp
      have CE : Hid (∀ (M' : Nat → Prop) (w' : World), Step NoB w M' w' → OpCells w' b (off + j * 5) x K0) := fun _ _ hs => hcell.step hs (fun h => h)
      have KE : Hid (∀ (M' : Nat → Prop) (w' : World), Step NoB w M' w' → Ints w' M' K0 x.kept) := fun _ _ hs => hkp.step hs
      have xok := Lib.hid (MOK.out x (hx ▸ List.getElem_mem hlt))
      have XK : Hid (x.kept.length * 8 ≤ 140737488355328) := HML.out x (hx ▸ List.getElem_mem hlt)
      have HT : Hid (opsTo 4 s mops (j + 1) = ((opsTo 4 s mops j).op 4 x).2) := by show _ = _; rw [opsTo_succ _ _ _ _ hlt, hx]
      have W1 : Hid ((opsTo 4 s mops j).wr.length < 1073741824) := by
        have h1 := opsTo_wr (n := 4) (s := s) mops j hj
        have h2 := U.out.wr
        show _ < _; omega
      have W2 : Hid ((opsTo 4 s mops j).kept.length * 8 ≤ 140737488355328) := opsTo_kept mops _ C2.out HML.out j hj
      clear hx hcell hkp
      obtain ⟨c', hc'⟩ : ∃ c', opsTo 4 s mops (j + 1) = c' := ⟨_, rfl⟩
      rw [hc'] at HT
      have HC' := Lib.hid hc'; clear hc'
      generalize opsTo 4 s mops j = c at D OKJ HT W1 W2
      have hj1 : (j : Int) < (mops.length : Int) := by omega
      have hj2 : (j : Int) < 20 := by omega
      have hj0 : (0 : Int) ≤ (j : Int) := Int.natCast_nonneg _
      have hss := S7.out.trans S.out
      obtain ⟨x0, x1, x2, x3, x4⟩ := CE.out _ _ hss
      have KJ := Lib.hid (KE.out _ _ hss)
      clear hss
      go_wp2_with (fail)
      refine (law_do D.out 1 rfl OKJ.out x xok.out K0 KJ.out W1.out W2.out XK.out).mono ?_
      rintro e w8 ⟨gc', rfl, M8, hd, hs⟩
      have D8 : Hid (Disks w8 w.heap.size M8 [(g, s), (gc', c'), (gt, c)]) := by have := hd; rw [← HT.out] at this; exact this
      have S8 := Lib.hid (S.out.trans hs)
      clear hd hs D S x0 x1 x2 x3 x4 KJ
      have hss := S7.out.trans S8.out
      obtain ⟨x0, x1, x2, x3, x4⟩ := CE.out _ _ hss
      have KJ := Lib.hid (KE.out _ _ hss)
      clear hss
      go_wp2_with (fail)
      refine (law_do D8.out 2 rfl OKJ.out x xok.out K0 KJ.out W1.out W2.out XK.out).mono ?_
      rintro e w9 ⟨gt', rfl, M9, hd, hs⟩
      have R1 : Hid (∃ M', Disks w9 w.heap.size M' [(g, s), (gc', opsTo 4 s mops (j + 1)), (gt', opsTo 4 s mops (j + 1))] ∧ Step M5 w7 M' w9) := by
        refine ⟨M9, ?_, S8.out.trans hs⟩
        rw [HC'.out]
        rw [← HT.out] at hd
        exact hd
      clear hd hs D8 S8 KJ CE KE HT HC' x0 x1 x2 x3 x4 W1 W2 XK OKJ xok
      go_wp2_with (fail)
      go_roundw
      case rel => exact ⟨j + 1, gc', gt', by omega, by omega, rfl, rfl, by go_num, R1⟩
      case measure => simp [intOf]; omega
    · have T : Hid (Bytes wr M' v3 s.all) := T7.out.step S.out
      have S0 : Hid (Step NoB w M' wr) := S7.out.trans S.out
      generalize opsTo 4 s mops j = t at D OKJ
      have KZ : Hid (Ints wr M' K ks) := HK.out.step S0.out
      have OKC : Hid ((t.crash ks).Ok 4) := DS.crash_ok OKJ.out ks
      have OKB : Hid ((t.back ks).Ok 4) := DS.power_ok OKC.out
      have DNB : Hid ((t.back ks).down = false) := rfl
      clear S HU HK MOK HML
      have hfin : (j < mops.length ∧ ¬ j < 20) ∨ ¬ j < mops.length := by
        by_cases h : j < mops.length
        · exact .inl ⟨h, fun h' => hlt ⟨h, h'⟩⟩
        · exact .inr h
      clear hlt
      rcases hfin with ⟨hl, h20⟩ | hl
      all_goals
        go_wp2_with (fail)
        refine (law_crash D.out 1 rfl OKJ.out K ks KZ.out).mono ?_
        rintro e w8 ⟨rfl, M8, hd, hs⟩
        have D8 : Hid (Disks w8 w.heap.size M8 [(g, s), (gc, t.crash ks), (gt, t)]) := hd
        have S8 := Lib.hid (S0.out.trans hs); have T8 := Lib.hid (T.out.step hs); have K8 := Lib.hid (KZ.out.step hs)
        clear hd hs D S0 T KZ
        go_wp2_with (fail)
        refine (law_crash D8.out 2 rfl OKJ.out K ks K8.out).mono ?_
        rintro e w9 ⟨rfl, M9, hd, hs⟩
        have D9 : Hid (Disks w9 w.heap.size M9 [(g, s), (gc, t.crash ks), (gt, t.crash ks)]) := hd
        have S9 := Lib.hid (S8.out.trans hs); have T9 := Lib.hid (T8.out.step hs)
        clear hd hs D8 S8 T8 K8
        go_wp2_with (fail)
        refine (law_power D9.out 1 rfl).mono ?_
        rintro e w10 ⟨rfl, M10, hd, hs⟩
        have D10 : Hid (Disks w10 w.heap.size M10 [(g, s), (gc, t.back ks), (gt, t.crash ks)]) := hd
        have S10 := Lib.hid (S9.out.trans hs); have T10 := Lib.hid (T9.out.step hs)
        clear hd hs D9 S9 T9
        go_wp2_with (fail)
        refine (law_power D10.out 2 rfl).mono ?_
        rintro e w11 ⟨rfl, M11, hd, hs⟩
        have D11 : Hid (Disks w11 w.heap.size M11 [(g, s), (gc, t.back ks), (gt, t.back ks)]) := hd
        have S11 := Lib.hid (S10.out.trans hs); have T11 := Lib.hid (T10.out.step hs)
        clear hd hs D10 S10 T10
        generalize t.back ks = z at D11 OKB DNB
        go_wp2_with (fail)
        refine (law_contents D11.out 1 rfl OKB.out DNB.out).mono ?_
        rintro e w12 ⟨v12, rfl, hd, hs, hbt⟩
        have D12 := Lib.hid hd; have T12 := Lib.hid (T11.out.step hs); have S12 := Lib.hid (S11.out.trans hs); have A12 := Lib.hid hbt
        clear hd hs hbt D11 T11 S11
        go_wp2_with (fail)
        refine (law_contents D12.out 2 rfl OKB.out DNB.out).mono ?_
        rintro e w13 ⟨v13, rfl, hd, hs, hbt⟩
        have D13 := Lib.hid hd; have T13 := Lib.hid (T12.out.step hs); have S13 := Lib.hid (S12.out.trans hs); have A13 := Lib.hid (A12.out.step hs); have B13 := Lib.hid hbt
        clear hd hs hbt D12 T12 S12 A12
        go_wp2_with (fail)
        refine (law_same D13.out _ _ _ _ A13.out B13.out).mono ?_
        rw [sameB_true rfl]
        rintro e w14 ⟨rfl, hd, hs⟩
        have D14 := Lib.hid hd; have T14 := Lib.hid (T13.out.step hs); have S14 := Lib.hid (S13.out.trans hs)
        clear hd hs D13 T13 S13 A13 B13
        go_wp2_with (fail)
        refine (law_contents D14.out 0 rfl U.out.ok U.out.down).mono ?_
        rintro e w15 ⟨v15, rfl, hd, hs, hbt⟩
        have D15 := Lib.hid hd; have T15 := Lib.hid (T14.out.step hs); have S15 := Lib.hid (S14.out.trans hs); have A15 := Lib.hid hbt
        clear hd hs hbt D14 T14 S14
        go_wp2_with (fail)
        refine (law_same D15.out _ _ _ _ A15.out T15.out).mono ?_
        rw [sameB_true rfl]
        rintro e w16 ⟨rfl, hd, hs⟩
        have D16 := Lib.hid hd; have S16 := Lib.hid (S15.out.trans hs)
        clear hd hs D15 T15 S15 A15
        go_wp2_with (fail)
        refine (law_pending D16.out 0 rfl).mono ?_
        rintro e w' ⟨rfl, rfl⟩
        go_wp2_with (fail)
        go_ret
        exact ⟨rfl, S16.out.below⟩

end Go.Proofs.Ythnolhcknhhipaa
