/-
  DiskMatchesReference: the walk.
  Condition: the numbers to be kept fit into 2^47 bytes.
-/
import Derived.Test.YthnolhcknhhipaaDkRefM
namespace Go.Proofs.Ythnolhcknhhipaa
set_option linter.unusedVariables false
set_option linter.unusedSimpArgs false
open Go.RowKit

set_option maxRecDepth 100000 in
set_option maxHeartbeats 1000000 in
theorem matches_out (w : World) (x : Int) (hx : x < 1 ∨ 6 < x) (v : Value) :
    Calls Try.prog 5 #[.int .i64 x, v] w fun e w' => e = .returned (.bool true) ∧ Below w.heap.size w w' := by
  have hc : x < 1 ∨ (6 < x ∧ x ≤ 65536) ∨ 65536 < x := by omega
  rcases hc with hc | ⟨hc, hc'⟩ | hc
  · clear hx
    go_enter Try.func5, Try.ntmps5
    go_wp2_with (fail)
    refine (sanity_any w).mono ?_
    rintro e w1 ⟨rfl, hb⟩
    have B1 := Lib.hid hb; clear hb
    go_wp2_with (fail)
    refine (new_small w1 x hc).mono ?_
    rintro e w2 ⟨rfl, rfl⟩
    go_wp2_with (fail)
    refine (refnew_small w1 x hc).mono ?_
    rintro e w2 ⟨r, rfl, rfl, hb⟩
    have B2 : Hid (Below w.heap.size w w2) := B1.out.trans (hb.mono B1.out.size)
    clear hb B1
    go_wp2_with (with_reducible refine wpList_store_last rfl 48 (.tmp 8) (.tmp 40) rfl st0 st0 rfl rfl size_state rfl (st5_one _ _ _ _ _ _ _ _ _ _ _) ?_)
    go_ret
    exact ⟨rfl, B2.out.alloc B2.out.size _⟩
  · clear hx
    go_enter Try.func5, Try.ntmps5
    go_wp2_with (fail)
    refine (sanity_any w).mono ?_
    rintro e w1 ⟨rfl, hb⟩
    have B1 := Lib.hid hb; clear hb
    go_wp2_with (fail)
    go_ret
    exact ⟨rfl, B1.out⟩
  · clear hx
    go_enter Try.func5, Try.ntmps5
    go_wp2_with (fail)
    refine (sanity_any w).mono ?_
    rintro e w1 ⟨rfl, hb⟩
    have B1 := Lib.hid hb; clear hb
    go_wp2_with (fail)
    refine (new_large w1 x hc).mono ?_
    rintro e w2 ⟨rfl, rfl⟩
    go_wp2_with (fail)
    refine (refnew_large w1 x hc).mono ?_
    rintro e w2 ⟨r, rfl, rfl, hb⟩
    have B2 : Hid (Below w.heap.size w w2) := B1.out.trans (hb.mono B1.out.size)
    clear hb B1
    go_wp2_with (with_reducible refine wpList_store_last rfl 48 (.tmp 8) (.tmp 40) rfl st0 st0 rfl rfl size_state rfl (st5_one _ _ _ _ _ _ _ _ _ _ _) ?_)
    go_ret
    exact ⟨rfl, B2.out.alloc B2.out.size _⟩

/-- Writes to blocks that are new. -/
theorem Step.far {M M' F F' : Nat → Prop} {w a b : World} (h : Step M w M' a) (hs : Step F a F' b) (hF : ∀ k, F k → w.heap.size ≤ k) : Step M w M' b :=
  ⟨hs.os.trans h.os, hs.tape.trans h.tape, hs.output.trans h.output, Nat.le_trans h.size hs.size, fun k hk hm => (hs.block k (Nat.lt_of_lt_of_le hk h.size) (fun hf => by have := hF k hf; omega)).trans (h.block k hk hm), h.grow⟩

set_option maxRecDepth 100000 in
set_option maxHeartbeats 1000000 in
theorem matches_walk (w : World) (n : Nat) (h1 : 1 ≤ n) (h6 : n ≤ 6) (u : Value) (ops : List OpD) (hu : OpsAt w NoB u ops) (hml : ∀ y ∈ ops, y.kept.length * 8 ≤ 140737488355328) :
    Calls Try.prog 5 #[.int .i64 n, u] w fun e w' => e = .returned (.bool true) ∧ Below w.heap.size w w' := by
  have HU := Lib.hid hu; clear hu
  have HML := Lib.hid hml; clear hml
  obtain ⟨ua, uc, rfl⟩ : ∃ ua uc, u = .slice ua ops.length uc := by obtain ⟨ao, cap, hv, -⟩ := HU.out; exact ⟨ao, cap, hv⟩
  have MOK : Hid (∀ y ∈ ops, y.Ok) := by obtain ⟨ao, cap, hv, hc, hm, hok, -⟩ := HU.out; exact hok
  have hul : ops.length ≤ 9223372036854775807 := by
    obtain ⟨ao, cap, hv, hc, hm, -⟩ := HU.out; unfold maxLen at hm; omega
  have OK0 : Hid ((DS.new n).Ok n) := DS.new_ok h1 (by omega)
  go_enter Try.func5, Try.ntmps5
  go_wp2_with (fail)
  refine (sanity_any w).mono ?_
  rintro e w1 ⟨rfl, hb⟩
  have D1 : Hid (Disks w1 w.heap.size NoB []) := ((Disks.start w).pure hb).1
  have S1 : Hid (Step NoB w NoB w1) := ((Disks.start w).pure hb).2
  clear hb
  go_wp2_with (fail)
  refine (law_new D1.out n h1 (by omega)).mono ?_
  rintro e w2 ⟨g, rfl, M2, hd, hs⟩
  have D2 : Hid (Disks w2 w.heap.size M2 [(g, opsTo n (DS.new n) ops 0)]) := hd
  have S2 := Lib.hid (S1.out.trans hs)
  clear hd hs D1 S1
  go_wp2_with (fail)
  refine (refnew_any w2 n h1 (by omega)).mono ?_
  rintro e w3 ⟨r, rfl, hr0, hb⟩
  have hr := hr0 M2 (fun k hk => (D2.out.2.1 k hk).2)
  have hz : (opsTo n (DS.new n) ops 0).wr.length = 0 := rfl
  obtain ⟨ca, cc, wa, wc, ka, kc, rfl⟩ := hr.shapes
  obtain ⟨w4, bs, hw4q, hbs, R4, B4, X4⟩ := out_box w3 (.slice ca n cc) (.slice wa (DS.new n).wr.length wc) (.slice ka (DS.new n).kept.length kc) (DS.new n).down (DS.new n).fuse
  have hlt : ∀ k, M2 k → k < bs := fun k hk => by have := (D2.out.2.1 k hk).2; have := hb.size; omega
  have INV : Hid (∃ M' ca cc wa wc ka kc, Disks w4 w.heap.size M' [(g, opsTo n (DS.new n) ops 0)] ∧ w4.heap[bs]? = some (.cells (st5 (.slice ca n cc) (.slice wa (opsTo n (DS.new n) ops 0).wr.length wc) (opsTo n (DS.new n) ops 0).down (opsTo n (DS.new n) ops 0).fuse (.slice ka (opsTo n (DS.new n) ops 0).kept.length kc)) 48 (0, 0)) ∧ RefAt w4 (Keep M' bs) n (.agg (st5 (.slice ca n cc) (.slice wa (opsTo n (DS.new n) ops 0).wr.length wc) (opsTo n (DS.new n) ops 0).down (opsTo n (DS.new n) ops 0).fuse (.slice ka (opsTo n (DS.new n) ops 0).kept.length kc))) (opsTo n (DS.new n) ops 0) ∧ ¬ M' bs ∧ Step NoB w M' w4) :=
    ⟨M2, ca, cc, wa, wc, ka, kc, ((D2.out.pure hb).1.pure B4).1, R4, (hr.step (Step.keep B4 (by omega))), fun hm => by have := hlt _ hm; omega, (S2.out.trans ((D2.out.pure hb).2)).trans ((D2.out.pure hb).1.pure B4).2⟩
  have HBS : Hid (bs < w4.heap.size) := by show _ < _; rw [← hw4q, ← hbs]; simp
  have HBW : Hid (w.heap.size ≤ bs) := by show _ ≤ _; rw [← hbs]; exact Nat.le_trans S2.out.size hb.size
  clear hr hr0 R4 B4 X4 hlt hb D2 S2 hz
  go_wp2_with (with_reducible refine wpList_store_last rfl 48 (.tmp 8) (.tmp 40) rfl st0 (st5 (.slice ca n cc) (.slice wa (DS.new n).wr.length wc) (DS.new n).down (DS.new n).fuse (.slice ka (DS.new n).kept.length kc)) rfl rfl size_state rfl (st5_one _ _ _ _ _ _ _ _ _ _ _) ?_)
  clear hw4q
  go_loopw [6, 10] (fun d i wr => ∃ (j : Nat) (g : Nat), j ≤ ops.length ∧ j ≤ 40 ∧ d = .pointer (some ⟨g, 0, none⟩) ∧ i = .int .i64 j ∧ Hid (∃ M' ca cc wa wc ka kc, Disks wr w.heap.size M' [(g, opsTo n (DS.new n) ops j)] ∧ wr.heap[bs]? = some (.cells (st5 (.slice ca n cc) (.slice wa (opsTo n (DS.new n) ops j).wr.length wc) (opsTo n (DS.new n) ops j).down (opsTo n (DS.new n) ops j).fuse (.slice ka (opsTo n (DS.new n) ops j).kept.length kc)) 48 (0, 0)) ∧ RefAt wr (Keep M' bs) n (.agg (st5 (.slice ca n cc) (.slice wa (opsTo n (DS.new n) ops j).wr.length wc) (opsTo n (DS.new n) ops j).down (opsTo n (DS.new n) ops j).fuse (.slice ka (opsTo n (DS.new n) ops j).kept.length kc))) (opsTo n (DS.new n) ops j) ∧ ¬ M' bs ∧ Step NoB w M' wr) ∧ Hid (bs < wr.heap.size)) (fun _ i _ => 40 - (intOf i).toNat)
  case atStart => exact ⟨0, g, Nat.zero_le _, by omega, rfl, rfl, INV, HBS⟩
  case round =>
    clear INV HBS hbs
    obtain ⟨j, g, hj, hj40, rfl, rfl, RD, RB⟩ := hrel
    by_cases hlt : j < ops.length ∧ j < 40
    · obtain ⟨hlt, h40⟩ := hlt
      obtain ⟨M', ca, cc, wa, wc, ka, kc, hd, hbk, hrf, hnm, hs⟩ := RD.out
      have OKJ : Hid ((opsTo n (DS.new n) ops j).Ok n) := opsTo_ok OK0.out ops MOK.out j hj
      have W1 : Hid ((opsTo n (DS.new n) ops j).wr.length < 1073741824) := by
        have h1 := opsTo_wr (n := n) (s := DS.new n) ops j hj
        have h2 : (DS.new n).wr.length = 0 := rfl
        show _ < _; omega
      have W2 : Hid ((opsTo n (DS.new n) ops j).kept.length * 8 ≤ 140737488355328) := opsTo_kept ops _ (by decide : 0 * 8 ≤ 140737488355328) HML.out j hj
      obtain ⟨b, off, K0, rfl, hbl, -, hcell, hkp⟩ := HU.out.get j hlt
      obtain ⟨x, hx⟩ : ∃ x, ops[j] = x := ⟨_, rfl⟩
      rw [hx] at hcell hkp
      have CE : Hid (∀ (M' : Nat → Prop) (w' : World), Step NoB w M' w' → OpCells w' b (off + j * 5) x K0) := fun _ _ hs => hcell.step hs (fun h => h)
      have KE : Hid (∀ (M' : Nat → Prop) (w' : World), Step NoB w M' w' → Ints w' M' K0 x.kept) := fun _ _ hs => hkp.step hs
      have xok := Lib.hid (MOK.out x (hx ▸ List.getElem_mem hlt))
      have XK : Hid (x.kept.length * 8 ≤ 140737488355328) := HML.out x (hx ▸ List.getElem_mem hlt)
      have HT : Hid (opsTo n (DS.new n) ops (j + 1) = ((opsTo n (DS.new n) ops j).op n x).2) := by show _ = _; rw [opsTo_succ _ _ _ _ hlt, hx]
      have HBL : Hid (b < w.heap.size) := hbl
      have D := Lib.hid hd; have S := Lib.hid hs; have BK := Lib.hid hbk; have RF := Lib.hid hrf; have NM := Lib.hid hnm
      clear hx hcell hkp hd hs hbk hrf hnm RD hbl
      obtain ⟨c', hc'⟩ : ∃ c', opsTo n (DS.new n) ops (j + 1) = c' := ⟨_, rfl⟩
      rw [hc'] at HT
      have HC' := Lib.hid hc'; clear hc'
      generalize opsTo n (DS.new n) ops j = c at D OKJ HT W1 W2 BK RF
      obtain ⟨cd, hcd⟩ : ∃ cd, (c.op n x).1 = cd := ⟨_, rfl⟩
      have OKC : Hid (c'.Ok n) := by show c'.Ok n; rw [HT.out]; exact DS.op_ok OKJ.out x xok.out
      have hj1 : (j : Int) < (ops.length : Int) := by omega
      have hj2 : (j : Int) < 40 := by omega
      have hj0 : (0 : Int) ≤ (j : Int) := Int.natCast_nonneg _
      obtain ⟨x0, x1, x2, x3, x4⟩ := CE.out _ _ S.out
      have KJ := Lib.hid (KE.out _ _ S.out)
      have CD := Lib.hid hcd; clear hcd
      go_wp2_with (fail)
      refine (law_do D.out 0 rfl OKJ.out x xok.out K0 KJ.out W1.out W2.out XK.out).mono ?_
      rintro e w8 ⟨g', rfl, M8, hd, hs⟩
      have D8 : Hid (Disks w8 w.heap.size M8 [(g', c')]) := by have := hd; rw [← HT.out] at this; exact this
      have S8 := Lib.hid (S.out.trans hs)
      have BK8 : Hid (w8.heap[bs]? = some (.cells (st5 (.slice ca n cc) (.slice wa c.wr.length wc) c.down c.fuse (.slice ka c.kept.length kc)) 48 (0, 0))) := (hs.block bs RB.out NM.out).trans BK.out
      have RF8 : Hid (RefAt w8 (Keep M8 bs) n (.agg (st5 (.slice ca n cc) (.slice wa c.wr.length wc) c.down c.fuse (.slice ka c.kept.length kc))) c) := RF.out.step hs.beside
      have NM8 : Hid (¬ M8 bs) := hs.away RB.out NM.out
      have RB8 : Hid (bs < w8.heap.size) := Nat.lt_of_lt_of_le RB.out hs.size
      rw [CD.out]
      clear hd hs D S x0 x1 x2 x3 x4 KJ BK RF NM RB
      have hbs8 := RB8.out
      have hb8 : b < w8.heap.size := Nat.lt_of_lt_of_le HBL.out S8.out.size
      have RX : Hid (∀ w' : World, Below w8.heap.size w8 w' → w'.cell? ⟨bs, 0, none⟩ = some (.slice ca n cc) ∧ w'.cell? ⟨bs, 1, none⟩ = some (.slice wa c.wr.length wc) ∧ w'.cell? ⟨bs, 2, none⟩ = some (.bool c.down) ∧ w'.cell? ⟨bs, 3, none⟩ = some (.int .i64 c.fuse) ∧ w'.cell? ⟨bs, 4, none⟩ = some (.slice ka c.kept.length kc) ∧ OpCells w' b (off + j * 5) x K0) := fun w' hb => by
        obtain ⟨a0, a1, a2, a3, a4⟩ := box_cells (heap_below hb BK8.out)
        exact ⟨a0, a1, a2, a3, a4, (CE.out _ _ S8.out).step (Step.of_below hb NoB) (fun h => h)⟩
      clear hbs8 hb8
      go_wp2_with (fail)
      refine wp_region_held_drew (S := fun w' => w'.cell? ⟨bs, 0, none⟩ = some (.slice ca n cc) ∧ w'.cell? ⟨bs, 1, none⟩ = some (.slice wa c.wr.length wc) ∧ w'.cell? ⟨bs, 2, none⟩ = some (.bool c.down) ∧ w'.cell? ⟨bs, 3, none⟩ = some (.int .i64 c.fuse) ∧ w'.cell? ⟨bs, 4, none⟩ = some (.slice ka c.kept.length kc) ∧ OpCells w' b (off + j * 5) x K0) (by kernel_rfl) (RX.out _ (Below.refl _ _).drew) (fun hS => ?_)
      refine wpAnyH_take (i := 0) (v := .agg #[.slice ca n cc, .slice wa c.wr.length wc, .bool c.down, .int .i64 c.fuse, .slice ka c.kept.length kc]) rfl (by kernel_rfl) (by kernel_rfl) (by kernel_rfl) (fun _ _ _ h => h) (Or.inl ⟨by rfl, ?_⟩) hS ?_
      · intro w hSw
        go_split_ands
        go_simp
      try simp only [Act.put, List.getElem_toArray, List.getElem_cons_zero, List.getElem_cons_succ, List.setIfInBounds_toArray, List.set_cons_zero, List.set_cons_succ]
      refine wpAnyH_take (i := 1) (v := .slice (some ⟨b, off, none⟩) ops.length uc) rfl (by kernel_rfl) (by kernel_rfl) (by kernel_rfl) (fun _ _ _ h => h) (Or.inl ⟨by rfl, ?_⟩) hS ?_
      · intro w hSw
        go_split_ands
        go_simp
      try simp only [Act.put, List.getElem_toArray, List.getElem_cons_zero, List.getElem_cons_succ, List.setIfInBounds_toArray, List.set_cons_zero, List.set_cons_succ]
      refine wpAnyH_take (i := 2) (v := .int .i64 (j : Int)) rfl (by kernel_rfl) (by kernel_rfl) (by kernel_rfl) (fun _ _ _ h => h) (Or.inl ⟨by rfl, ?_⟩) hS ?_
      · intro w hSw
        go_split_ands
        go_simp
      try simp only [Act.put, List.getElem_toArray, List.getElem_cons_zero, List.getElem_cons_succ, List.setIfInBounds_toArray, List.set_cons_zero, List.set_cons_succ]
      refine wpAnyH_take (i := 3) (v := .pointer (some ⟨b, off + j * 5, none⟩)) rfl (by kernel_rfl) (by kernel_rfl) (by kernel_rfl) (fun _ _ _ h => h) (Or.inl ⟨by rfl, ?_⟩) hS ?_
      · intro w hSw
        go_split_ands
        go_simp
      try simp only [Act.put, List.getElem_toArray, List.getElem_cons_zero, List.getElem_cons_succ, List.setIfInBounds_toArray, List.set_cons_zero, List.set_cons_succ]
      refine wpAnyH_take (i := 4) (v := x.val K0) rfl (by kernel_rfl) (by kernel_rfl) (by kernel_rfl) (fun _ _ _ h => h) (Or.inl ⟨by rfl, ?_⟩) hS ?_
      · intro w hSw
        have hoc := hSw.2.2.2.2.2
        simp only [OpCells] at hoc
        clear hSw
        go_split_ands
        go_simp
      try simp only [Act.put, List.getElem_toArray, List.getElem_cons_zero, List.getElem_cons_succ, List.setIfInBounds_toArray, List.set_cons_zero, List.set_cons_succ]
      refine wpAnyH_ready (rs := [5, 9]) (by kernel_rfl) (by simp) ?_
      refine AllReadyH.cons rfl (fun K hK => ?_) (AllReadyH.cons rfl (fun K hK => ?_) AllReadyH.nil)
      try simp only [Act.put, List.getElem_toArray, List.getElem_cons_zero, List.getElem_cons_succ, List.setIfInBounds_toArray, List.set_cons_zero, List.set_cons_succ]
      have HKL : Hid (∀ b, Keep M8 bs b → b < w8.drew.heap.size) := Keep.lt (fun k hk => (D8.out.2.1 k hk).2) RB8.out
      have HRX : Hid (RefAt w8.drew (Keep M8 bs) n (.agg #[.slice ca n cc, .slice wa c.wr.length wc, .bool c.down, .int .i64 c.fuse, .slice ka c.kept.length kc]) c) := RF8.out.step (Step.drew (Step.refl _ w8))
      have HKX : Hid (Ints w8.drew NoB K0 x.kept) := Reads.wide (KE.out _ _ S8.out.drew) (fun _ _ h => h.elim)
      go_simp
      refine (refdo_any w8.drew (Keep M8 bs) HKL.out n _ c HRX.out OKJ.out W1.out x xok.out K0 HKX.out XK.out).mono ?_
      rintro e w9 ⟨r, rfl, hr, hb9⟩
      rw [← HT.out] at hr
      rw [CD.out]
      obtain ⟨da, dc, ea, ec, fa, fc, rfl⟩ := hr.shapes
      have HR9 := Lib.hid hr
      have BL9 : Hid (Below w8.heap.size w8 w9) := (Below.refl _ w8).drew.trans (hb9.mono (Nat.le_refl _))
      clear hr hb9 HKL HRX HKX
      refine hK.out _ _ (RX.out _ BL9.out) (fun hS => ?_)
      clear hK K
      try simp only [Act.put, List.getElem_toArray, List.getElem_cons_zero, List.getElem_cons_succ, List.setIfInBounds_toArray, List.set_cons_zero, List.set_cons_succ]
      refine wpAnyH_take (i := 6) (v := .tuple #[.agg #[.slice da n dc, .slice ea c'.wr.length ec, .bool c'.down, .int .i64 c'.fuse, .slice fa c'.kept.length fc], .int .i64 cd]) rfl (by kernel_rfl) (by kernel_rfl) (by kernel_rfl) (fun _ _ _ h => h) (Or.inl ⟨by rfl, ?_⟩) hS ?_
      · intro w hSw
        go_split_ands
        go_simp
      try simp only [Act.put, List.getElem_toArray, List.getElem_cons_zero, List.getElem_cons_succ, List.setIfInBounds_toArray, List.set_cons_zero, List.set_cons_succ]
      refine wpAnyH_take (i := 7) (v := .agg #[.slice da n dc, .slice ea c'.wr.length ec, .bool c'.down, .int .i64 c'.fuse, .slice fa c'.kept.length fc]) rfl (by kernel_rfl) (by kernel_rfl) (by kernel_rfl) (fun _ _ _ h => h) (Or.inl ⟨by rfl, ?_⟩) hS ?_
      · intro w hSw
        go_split_ands
        go_simp
      try simp only [Act.put, List.getElem_toArray, List.getElem_cons_zero, List.getElem_cons_succ, List.setIfInBounds_toArray, List.set_cons_zero, List.set_cons_succ]
      refine wpAnyH_take (i := 8) (v := .int .i64 cd) rfl (by kernel_rfl) (by kernel_rfl) (by kernel_rfl) (fun _ _ _ h => h) (Or.inl ⟨by rfl, ?_⟩) hS ?_
      · intro w hSw
        go_split_ands
        go_simp
      try simp only [Act.put, List.getElem_toArray, List.getElem_cons_zero, List.getElem_cons_succ, List.setIfInBounds_toArray, List.set_cons_zero, List.set_cons_succ]
      refine wpAnyH_ready (rs := [9]) (by kernel_rfl) (by simp) ?_
      refine AllReadyH.cons rfl (fun K hK => ?_) AllReadyH.nil
      try simp only [Act.put, List.getElem_toArray, List.getElem_cons_zero, List.getElem_cons_succ, List.setIfInBounds_toArray, List.set_cons_zero, List.set_cons_succ]
      go_simp
      refine hK.out _ _ (RX.out _ (BL9.out.alloc BL9.out.size _)) (fun hS => ?_)
      clear hK K
      try simp only [Act.put, List.getElem_toArray, List.getElem_cons_zero, List.getElem_cons_succ, List.setIfInBounds_toArray, List.set_cons_zero, List.set_cons_succ]
      obtain ⟨w9a, bt, hw9a, hbt, R9, B9, X9⟩ := out_box w9 (.slice none 0 0) (.slice none 0 0) (.slice none 0 0) false 0
      have RBT := Lib.hid R9
      have BLX : Hid (Below w8.heap.size w8 w9a) := BL9.out.trans (B9.mono BL9.out.size)
      have BTL : Hid (w8.heap.size ≤ bt) := by show _ ≤ _; rw [← hbt]; exact BL9.out.size
      have RRX : ∀ {w10 : World}, Step (fun k => k = bt) w9a (fun k => k = bt) w10 → RefAt w10 (Keep M8 bs) n (.agg #[.slice da n dc, .slice ea c'.wr.length ec, .bool c'.down, .int .i64 c'.fuse, .slice fa c'.kept.length fc]) c' := fun {w10} hs10 => RefAt.result (b := bt) (RefAt.step HR9.out (Step.keep B9 (by omega))) hs10
      obtain ⟨y0, y1, y2, y3, y4⟩ := box_cells R9
      have z := box_frozen R9
      rw [hw9a] at hS ⊢
      rw [hbt]
      clear R9 B9 X9 hw9a hbt HR9 BL9
      refine wpAnyH_ready (rs := [10]) (by kernel_rfl) (by simp) ?_
      refine AllReadyH.cons rfl (fun K hK => ?_) AllReadyH.nil
      try simp only [Act.put, List.getElem_toArray, List.getElem_cons_zero, List.getElem_cons_succ, List.setIfInBounds_toArray, List.set_cons_zero, List.set_cons_succ]
      go_simp
      refine hK.out _ _ (RX.out _ (((((BLX.out.setCell BTL.out _).setCell BTL.out _).setCell BTL.out _).setCell BTL.out _).setCell BTL.out _)) (fun hS => ?_)
      clear hK K
      try simp only [Act.put, List.getElem_toArray, List.getElem_cons_zero, List.getElem_cons_succ, List.setIfInBounds_toArray, List.set_cons_zero, List.set_cons_succ]
      refine wpAnyH_ready (rs := [11]) (by kernel_rfl) (by simp) ?_
      refine AllReadyH.cons rfl (fun K hK => ?_) AllReadyH.nil
      try simp only [Act.put, List.getElem_toArray, List.getElem_cons_zero, List.getElem_cons_succ, List.setIfInBounds_toArray, List.set_cons_zero, List.set_cons_succ]
      go_simp
      refine hK.out _ _ (RX.out _ (((((BLX.out.setCell BTL.out _).setCell BTL.out _).setCell BTL.out _).setCell BTL.out _).setCell BTL.out _)) (fun hS => ?_)
      clear hK K
      refine wpAnyH_done (by kernel_rfl) ?_ _
      try simp only [Act.put, List.getElem_toArray, List.getElem_cons_zero, List.getElem_cons_succ, List.setIfInBounds_toArray, List.set_cons_zero, List.set_cons_succ]
      obtain ⟨w10, hw10, P10, Q10, S10⟩ := put5 (w0 := w8) (c0 := .slice da n dc) (c1 := .slice ea c'.wr.length ec) (c2 := .bool c'.down) (c3 := .int .i64 c'.fuse) (c4 := .slice fa c'.kept.length fc) RBT.out BLX.out BTL.out
      rw [hw10]
      have T10 := Lib.hid P10; have BL10 := Lib.hid Q10
      have RR10 : Hid (RefAt w10 (Keep M8 bs) n (.agg #[.slice da n dc, .slice ea c'.wr.length ec, .bool c'.down, .int .i64 c'.fuse, .slice fa c'.kept.length fc]) c') := RRX S10
      clear y0 y1 y2 y3 y4 z hw10 P10 Q10 S10 RRX BLX RBT
      rotate_left
      try simp only [Act.put, List.getElem_toArray, List.getElem_cons_zero, List.getElem_cons_succ, List.setIfInBounds_toArray, List.set_cons_zero, List.set_cons_succ]
      go_simp
      refine hK.out _ _ (RX.out _ ((Below.refl _ w8).drew.alloc (Nat.le_refl _) _)) (fun hS => ?_)
      clear hK K
      try simp only [Act.put, List.getElem_toArray, List.getElem_cons_zero, List.getElem_cons_succ, List.setIfInBounds_toArray, List.set_cons_zero, List.set_cons_succ]
      obtain ⟨w9z, bt, hw9a, hbt, R9z, B9z, X9⟩ := out_box w8 (.slice none 0 0) (.slice none 0 0) (.slice none 0 0) false 0
      obtain ⟨w9a, hw9d⟩ : ∃ w9a, w9z.drew = w9a := ⟨_, rfl⟩
      have R9 : w9a.heap[bt]? = some (.cells st0 48 (0, 0)) := by rw [← hw9d]; exact R9z
      have B9 : Below w8.heap.size w8 w9a := by rw [← hw9d]; exact B9z.drew
      have RB9 := Lib.hid R9
      have BL9 := Lib.hid B9
      have BTL : Hid (w8.heap.size ≤ bt) := by show _ ≤ _; rw [← hbt]; exact Nat.le_refl _
      have HKL : Hid (∀ b, Keep (Keep M8 bs) bt b → b < w9a.heap.size) := Keep.lt (fun k hk => Nat.lt_of_lt_of_le (Keep.lt (fun k hk => (D8.out.2.1 k hk).2) RB8.out k hk) BL9.out.size) (by rw [Array.getElem?_eq_some_iff] at R9; exact R9.1)
      have HRX : Hid (RefAt w9a (Keep (Keep M8 bs) bt) n (.agg #[.slice ca n cc, .slice wa c.wr.length wc, .bool c.down, .int .i64 c.fuse, .slice ka c.kept.length kc]) c) := RefAt.step RF8.out (Step.keep B9 (by omega))
      have HKX : Hid (Ints w9a NoB K0 x.kept) := Reads.wide (KE.out _ _ (S8.out.trans (Step.of_below B9 _))) (fun _ _ h => h.elim)
      rw [hw9a, hw9d] at hS ⊢
      rw [hbt]
      clear R9 B9 X9 hw9a hbt R9z B9z hw9d
      refine wpAnyH_ready (rs := [5]) (by kernel_rfl) (by simp) ?_
      refine AllReadyH.cons rfl (fun K hK => ?_) AllReadyH.nil
      try simp only [Act.put, List.getElem_toArray, List.getElem_cons_zero, List.getElem_cons_succ, List.setIfInBounds_toArray, List.set_cons_zero, List.set_cons_succ]
      go_simp
      refine (refdo_any w9a (Keep (Keep M8 bs) bt) HKL.out n _ c HRX.out OKJ.out W1.out x xok.out K0 HKX.out XK.out).mono ?_
      rintro e w9 ⟨r, rfl, hr, hb9⟩
      rw [← HT.out] at hr
      rw [CD.out]
      obtain ⟨da, dc, ea, ec, fa, fc, rfl⟩ := hr.shapes
      have HR9 := Lib.hid hr
      have RBT := Lib.hid (heap_below hb9 RB9.out)
      have BLX : Hid (Below w8.heap.size w8 w9) := BL9.out.trans (hb9.mono BL9.out.size)
      clear hr hb9 HKL HRX HKX RB9 BL9
      refine hK.out _ _ (RX.out _ BLX.out) (fun hS => ?_)
      clear hK K
      try simp only [Act.put, List.getElem_toArray, List.getElem_cons_zero, List.getElem_cons_succ, List.setIfInBounds_toArray, List.set_cons_zero, List.set_cons_succ]
      refine wpAnyH_take (i := 6) (v := .tuple #[.agg #[.slice da n dc, .slice ea c'.wr.length ec, .bool c'.down, .int .i64 c'.fuse, .slice fa c'.kept.length fc], .int .i64 cd]) rfl (by kernel_rfl) (by kernel_rfl) (by kernel_rfl) (fun _ _ _ h => h) (Or.inl ⟨by rfl, ?_⟩) hS ?_
      · intro w hSw
        go_split_ands
        go_simp
      try simp only [Act.put, List.getElem_toArray, List.getElem_cons_zero, List.getElem_cons_succ, List.setIfInBounds_toArray, List.set_cons_zero, List.set_cons_succ]
      refine wpAnyH_take (i := 7) (v := .agg #[.slice da n dc, .slice ea c'.wr.length ec, .bool c'.down, .int .i64 c'.fuse, .slice fa c'.kept.length fc]) rfl (by kernel_rfl) (by kernel_rfl) (by kernel_rfl) (fun _ _ _ h => h) (Or.inl ⟨by rfl, ?_⟩) hS ?_
      · intro w hSw
        go_split_ands
        go_simp
      try simp only [Act.put, List.getElem_toArray, List.getElem_cons_zero, List.getElem_cons_succ, List.setIfInBounds_toArray, List.set_cons_zero, List.set_cons_succ]
      refine wpAnyH_take (i := 8) (v := .int .i64 cd) rfl (by kernel_rfl) (by kernel_rfl) (by kernel_rfl) (fun _ _ _ h => h) (Or.inl ⟨by rfl, ?_⟩) hS ?_
      · intro w hSw
        go_split_ands
        go_simp
      try simp only [Act.put, List.getElem_toArray, List.getElem_cons_zero, List.getElem_cons_succ, List.setIfInBounds_toArray, List.set_cons_zero, List.set_cons_succ]
      have RRX : ∀ {w10 : World}, Step (fun k => k = bt) w9 (fun k => k = bt) w10 → RefAt w10 (Keep M8 bs) n (.agg #[.slice da n dc, .slice ea c'.wr.length ec, .bool c'.down, .int .i64 c'.fuse, .slice fa c'.kept.length fc]) c' := fun {w10} hs10 => RefAt.result (b := bt) HR9.out hs10
      obtain ⟨y0, y1, y2, y3, y4⟩ := box_cells RBT.out
      have z := box_frozen RBT.out
      clear HR9
      refine wpAnyH_ready (rs := [10]) (by kernel_rfl) (by simp) ?_
      refine AllReadyH.cons rfl (fun K hK => ?_) AllReadyH.nil
      try simp only [Act.put, List.getElem_toArray, List.getElem_cons_zero, List.getElem_cons_succ, List.setIfInBounds_toArray, List.set_cons_zero, List.set_cons_succ]
      go_simp
      refine hK.out _ _ (RX.out _ (((((BLX.out.setCell BTL.out _).setCell BTL.out _).setCell BTL.out _).setCell BTL.out _).setCell BTL.out _)) (fun hS => ?_)
      clear hK K
      try simp only [Act.put, List.getElem_toArray, List.getElem_cons_zero, List.getElem_cons_succ, List.setIfInBounds_toArray, List.set_cons_zero, List.set_cons_succ]
      refine wpAnyH_ready (rs := [11]) (by kernel_rfl) (by simp) ?_
      refine AllReadyH.cons rfl (fun K hK => ?_) AllReadyH.nil
      try simp only [Act.put, List.getElem_toArray, List.getElem_cons_zero, List.getElem_cons_succ, List.setIfInBounds_toArray, List.set_cons_zero, List.set_cons_succ]
      go_simp
      refine hK.out _ _ (RX.out _ (((((BLX.out.setCell BTL.out _).setCell BTL.out _).setCell BTL.out _).setCell BTL.out _).setCell BTL.out _)) (fun hS => ?_)
      clear hK K
      refine wpAnyH_done (by kernel_rfl) ?_ _
      try simp only [Act.put, List.getElem_toArray, List.getElem_cons_zero, List.getElem_cons_succ, List.setIfInBounds_toArray, List.set_cons_zero, List.set_cons_succ]
      obtain ⟨w10, hw10, P10, Q10, S10⟩ := put5 (w0 := w8) (c0 := .slice da n dc) (c1 := .slice ea c'.wr.length ec) (c2 := .bool c'.down) (c3 := .int .i64 c'.fuse) (c4 := .slice fa c'.kept.length fc) RBT.out BLX.out BTL.out
      rw [hw10]
      have T10 := Lib.hid P10; have BL10 := Lib.hid Q10
      have RR10 : Hid (RefAt w10 (Keep M8 bs) n (.agg #[.slice da n dc, .slice ea c'.wr.length ec, .bool c'.down, .int .i64 c'.fuse, .slice fa c'.kept.length fc]) c') := RRX S10
      clear y0 y1 y2 y3 y4 z hw10 P10 Q10 S10 RRX BLX RBT
      all_goals
        clear hS RX W1 W2 OKJ HT CD KE CE xok XK
        have BKX := heap_below BL10.out BK8.out
        have BKX' := Lib.hid BKX
        obtain ⟨y0, y1, y2, y3, y4⟩ := box_cells T10.out
        obtain ⟨s0, s1, s2, s3, s4⟩ := box_cells BKX
        have z := box_frozen BKX
        clear BKX
        go_wp2_with (fail)
        obtain ⟨w11, hw11, P11, -, S11⟩ := put5 (w0 := w) (c0 := .slice da n dc) (c1 := .slice ea c'.wr.length ec) (c2 := .bool c'.down) (c3 := .int .i64 c'.fuse) (c4 := .slice fa c'.kept.length fc) BKX'.out (S8.out.below.trans (BL10.out.mono S8.out.size)) HBW.out
        rw [hw11]
        have D11 : Hid (Disks w11 w.heap.size M8 [(g', c')]) := ((D8.out.pure BL10.out).1).aside S11 (fun k hk hm => NM8.out (hk ▸ hm))
        have S11' : Hid (Step NoB w M8 w11) := (S8.out.trans (Step.of_below BL10.out M8)).far S11 (fun k hk => by have := HBW.out; omega)
        have RF11 : Hid (RefAt w11 (Keep M8 bs) n (.agg #[.slice da n dc, .slice ea c'.wr.length ec, .bool c'.down, .int .i64 c'.fuse, .slice fa c'.kept.length fc]) c') := RR10.out.step (S11.wide (fun k hk => .inr hk))
        have BK11 := Lib.hid P11
        have L11 : Hid (bs < w11.heap.size) := Nat.lt_of_lt_of_le RB8.out (Nat.le_trans BL10.out.size S11.size)
        clear s0 s1 s2 s3 s4 z y0 y1 y2 y3 y4 hw11 S11 RR10 T10 BL10 BTL D8 S8 BK8 RF8 RB8 BKX'
        obtain ⟨s0, s1, s2, s3, s4⟩ := box_cells P11
        have DQ : Hid (∀ k, Disks (w11.drewN k) w.heap.size M8 [(g', c')]) := fun k => (D11.out.pure (Below.drewN (Below.refl _ _) k)).1
        clear P11
        go_wp2_with (fail)
        go_quiet ((first
          | (go_at_call 13; exact Calls.quiet_of_same (still_enter (law_pending (DQ.out _) 0 rfl)))
          | (go_at_call 25; exact Calls.quiet_of_same (still_enter (law_sectors (DQ.out _) 0 rfl OKC.out)))))
        obtain ⟨w12, hw12⟩ : ∃ w12, w11.drewN nq = w12 := ⟨_, rfl⟩
        have BQ : Below w11.heap.size w11 w12 := by rw [← hw12]; exact Below.drewN (Below.refl _ _) nq
        have D12 : Hid (Disks w12 w.heap.size M8 [(g', c')]) := (D11.out.pure BQ).1
        have S12 : Hid (Step NoB w M8 w12) := S11'.out.trans (Step.of_below BQ M8)
        have RF12 : Hid (RefAt w12 (Keep M8 bs) n (.agg #[.slice da n dc, .slice ea c'.wr.length ec, .bool c'.down, .int .i64 c'.fuse, .slice fa c'.kept.length fc]) c') := RF11.out.step (Step.of_below BQ _)
        have BK12 := Lib.hid (heap_below BQ BK11.out)
        have L12 : Hid (bs < w12.heap.size) := Nat.lt_of_lt_of_le L11.out BQ.size
        rw [hw12]
        clear hw12 BQ D11 S11' RF11 BK11 L11 DQ s0 s1 s2 s3 s4
        go_wp2_with (fail)
        go_loopw [15] (fun t wr2 => ∃ a : Nat, a ≤ n + 2 ∧ t = .int .i64 ((a : Int) - 1) ∧ Hid (Below w12.heap.size w12 wr2)) (fun t _ => (n + 2 - (intOf t + 1)).toNat)
        case atStart => exact ⟨0, by omega, rfl, Below.refl _ _⟩
        case round =>
          obtain ⟨a, ha, rfl, BR⟩ := hrel
          have BKr := heap_below BR.out BK12.out
          obtain ⟨s0, s1, s2, s3, s4⟩ := box_cells BKr
          have Dr : Hid (Disks wr w.heap.size M8 [(g', c')]) := (D12.out.pure BR.out).1
          have RFr : Hid (RefAt wr (Keep M8 bs) n (.agg #[.slice da n dc, .slice ea c'.wr.length ec, .bool c'.down, .int .i64 c'.fuse, .slice fa c'.kept.length fc]) c') := RF12.out.step (Step.of_below BR.out _)
          have BKR := Lib.hid BKr
          clear BKr
          have ha0 : (0 : Int) ≤ (a : Int) := Int.natCast_nonneg _
          by_cases hle : a ≤ n + 1
          · have ha1 : (a : Int) - 1 ≤ (n : Int) := by omega
            have ha2 : (a : Int) ≤ 8 := by omega
            obtain ⟨⟨lc, ll⟩, hlk⟩ : ∃ p, c'.look n ((a : Int) - 1) = p := ⟨_, rfl⟩
            have HLK := Lib.hid hlk; clear hlk
            clear s0 s1 s2 s3 s4
            go_wp2_with (fail)
            refine (law_look Dr.out 0 rfl OKC.out ((a : Int) - 1)).mono ?_
            rintro e w13 ⟨r1, rfl, hr1, hb1⟩
            rw [HLK.out] at hr1 ⊢
            obtain ⟨ra1, rc1, rfl⟩ := hr1.shape
            have BK13 := heap_below hb1 BKR.out
            obtain ⟨s0, s1, s2, s3, s4⟩ := box_cells BK13
            have RF13 : Hid (RefAt w13 NoB n (.agg #[.slice da n dc, .slice ea c'.wr.length ec, .bool c'.down, .int .i64 c'.fuse, .slice fa c'.kept.length fc]) c') := (RFr.out.step (Step.of_below hb1 _)).wide (fun _ h => h.elim)
            have B13 : Hid (Below w12.heap.size w12 w13) := BR.out.trans (hb1.mono BR.out.size)
            have R13 := Lib.hid hr1
            clear BK13 hr1 hb1
            go_wp2_with (fail)
            refine (refread_any w13 n _ c' RF13.out OKC.out ((a : Int) - 1) (by omega) (by omega)).mono ?_
            rintro e w14 ⟨r2, rfl, hr2, hb2⟩
            rw [HLK.out] at hr2 ⊢
            obtain ⟨ra2, rc2, rfl⟩ := hr2.shape
            have R13' : Hid (Bytes w14 NoB (.slice ra1 ll.length rc1) ll) := R13.out.step (Step.of_below hb2 _)
            have R14 := Lib.hid hr2
            have B14 : Hid (Below w12.heap.size w12 w14) := B13.out.trans (hb2.mono B13.out.size)
            clear hr2 hb2 s0 s1 s2 s3 s4 RF13 R13 B13
            go_wp2_with (fail)
            refine (same_any w14 NoB NoB _ _ ll ll R13'.out R14.out).mono ?_
            rw [sameB_true rfl]
            rintro e w15 ⟨rfl, kd, rfl⟩
            have B15 : Hid (Below w12.heap.size w12 (w14.drewN kd)) := Below.drewN B14.out kd
            clear R13' R14 B14
            go_wp2_with (fail)
            go_roundw
            case rel => exact ⟨a + 1, by omega, by go_num, B15⟩
            case measure => simp [intOf]; omega
          · have ha1 : (n : Int) < (a : Int) - 1 := by omega
            have INV' : Hid (∃ M' ca cc wa wc ka kc, Disks wr w.heap.size M' [(g', opsTo n (DS.new n) ops (j + 1))] ∧ wr.heap[bs]? = some (.cells (st5 (.slice ca n cc) (.slice wa (opsTo n (DS.new n) ops (j + 1)).wr.length wc) (opsTo n (DS.new n) ops (j + 1)).down (opsTo n (DS.new n) ops (j + 1)).fuse (.slice ka (opsTo n (DS.new n) ops (j + 1)).kept.length kc)) 48 (0, 0)) ∧ RefAt wr (Keep M' bs) n (.agg (st5 (.slice ca n cc) (.slice wa (opsTo n (DS.new n) ops (j + 1)).wr.length wc) (opsTo n (DS.new n) ops (j + 1)).down (opsTo n (DS.new n) ops (j + 1)).fuse (.slice ka (opsTo n (DS.new n) ops (j + 1)).kept.length kc))) (opsTo n (DS.new n) ops (j + 1)) ∧ ¬ M' bs ∧ Step NoB w M' wr) :=
              ⟨M8, da, dc, ea, ec, fa, fc, by rw [HC'.out]; exact Dr.out, by rw [HC'.out]; exact BKR.out, by rw [HC'.out]; exact RFr.out, NM8.out, S12.out.trans (Step.of_below BR.out M8)⟩
            have HBS' : Hid (bs < wr.heap.size) := Nat.lt_of_lt_of_le L12.out BR.out.size
            clear s0 s1 s2 s3 s4 Dr RFr BKR BR D12 RF12 BK12 S12 L12 HC' OKC NM8
            go_wp2_with (fail)
            go_roundw
            case rel => exact ⟨j + 1, g', by omega, by omega, rfl, by go_num, INV', HBS'⟩
            case measure => simp [intOf]; omega
    · have hfin : (j < ops.length ∧ ¬ j < 40) ∨ ¬ j < ops.length := by
        by_cases h : j < ops.length
        · exact .inl ⟨h, fun h' => hlt ⟨h, h'⟩⟩
        · exact .inr h
      clear hlt
      have BW : Hid (Below w.heap.size w wr) := by obtain ⟨M', ca, cc, wa, wc, ka, kc, hd, hbk, hrf, hnm, hs⟩ := RD.out; exact hs.below
      clear RD RB
      rcases hfin with ⟨hl, h20⟩ | hl
      all_goals
        go_wp2_with (fail)
        go_ret
        exact ⟨rfl, BW.out⟩

theorem matches_all (w : World) (x : Int) (u : Value) (ops : List OpD) (hu : OpsAt w NoB u ops) (hml : ∀ y ∈ ops, y.kept.length * 8 ≤ 140737488355328) :
    Calls Try.prog 5 #[.int .i64 x, u] w fun e w' => e = .returned (.bool true) ∧ Below w.heap.size w w' := by
  by_cases h : 1 ≤ x ∧ x ≤ 6
  · obtain ⟨n, rfl⟩ := Int.eq_ofNat_of_zero_le (show 0 ≤ x by omega)
    exact matches_walk w n (by omega) (by omega) u ops hu hml
  · exact matches_out w x (by omega) u

end Go.Proofs.Ythnolhcknhhipaa
