/-
  Check: what it says of a diagram.
  No condition.
-/
import Derived.Test.YtohmibmakelclaaPkB
import Derived.Deep.RegionHeld3
namespace Go.Proofs.Ytohmibmakelclaa
set_option linter.unusedVariables false
set_option linter.unusedSimpArgs false
open Go.RowKit

open Classical in
/-- The error that Check returns. -/
noncomputable def code (D : Dg) : Int := if 4096 < D.nodes.length then 2 else if Valid D then 0 else 20

theorem code_large {D : Dg} (h : 4096 < D.nodes.length) : code D = 2 := by unfold code; rw [if_pos h]
theorem code_ok {D : Dg} (h : D.nodes.length ≤ 4096) (hv : Valid D) : code D = 0 := by unfold code; rw [if_neg (by omega), if_pos hv]
theorem code_bad {D : Dg} (h : D.nodes.length ≤ 4096) (hv : ¬ Valid D) : code D = 20 := by unfold code; rw [if_neg (by omega), if_neg hv]

/-- A table's beginning. -/
theorem Wf.take {ns : List Br} (h : Wf ns) : ∀ j, Wf (ns.take j) := by
  induction h with
  | nil => intro j; simp; exact .nil
  | @snoc ns b hw hb ih =>
    intro j
    rcases Nat.lt_or_ge ns.length j with h | h
    · rw [List.take_of_length_le (by simp; omega)]; exact .snoc hw hb
    · rw [List.take_append_of_le_length h]; exact ih j
theorem Wf.brOk {ns : List Br} (h : Wf ns) (j : Nat) (hj : j < ns.length) : BrOk (ns.take j) ns[j] := by
  have := h.take (j + 1)
  rw [take_snoc' _ _ hj] at this
  exact this.inv.2
theorem Wf.next {ns : List Br} (j : Nat) (hj : j < ns.length) (h : Wf (ns.take j)) (hb : BrOk (ns.take j) ns[j]) : Wf (ns.take (j + 1)) := by
  rw [take_snoc' _ _ hj]; exact .snoc h hb
theorem level_take (ns : List Br) (j : Nat) (hj : j ≤ ns.length) (x : Int) (hx : x < j + 2) : level (ns.take j) x = level ns x := by
  unfold level
  split
  · rfl
  · rw [List.getD_eq_getElem?_getD, List.getD_eq_getElem?_getD, List.getElem?_take_of_lt (by omega)]

set_option maxRecDepth 100000 in
set_option maxHeartbeats 1000000 in
theorem check_any (w : World) (v : Value) (D : Dg) (h : DgAt w NoB v D) :
    Calls Try.prog 23 #[v] w fun e w' => e = .returned (.int .i64 (code D)) ∧ Below w.heap.size w w' := by
  have hin := h.1
  obtain ⟨a, c, rfl⟩ := h.shape
  obtain ⟨w0, bx, hw0q, hbx, hsz, hB, hb0⟩ := laid w #[.slice a D.nodes.length c, .int .i64 D.root] 28
  have HH : Hid (DgAt w0 NoB (.agg #[.slice a D.nodes.length c, .int .i64 D.root]) D) := h.below hb0
  obtain ⟨x0, x1⟩ := box2 hB
  have B0 := Lib.hid hb0; have BX := Lib.hid hbx; have HB := Lib.hid hB
  have hc := h.brs.len
  have hl : D.nodes.length ≤ 9223372036854775807 := by have := hc.1; have := hc.2.1; unfold maxLen at *; omega
  have HIN := Lib.hid hin
  clear h hB hb0 hc hin
  by_cases hbig : 4096 < D.nodes.length
  · rw [code_large hbig]
    go_enter Try.func23, Try.ntmps23
    go_wp2_with (fail)
    go_ret
    exact ⟨rfl, by first | exact B0.out | (rw [← BX.out]; exact B0.out)⟩
  have hmm := @run_makeMap Try.prog
  have hsm : D.nodes.length ≤ 4096 := by omega
  clear hbig
  obtain ⟨w1, e1⟩ : ∃ w1, w0.alloc (.map #[] 0) = w1 := ⟨_, rfl⟩
  have M1 : Hid (BoolMap Try.prog 44 4 w1 (bx + 1) 0 brVal (fun y => decide (y ∈ D.nodes.take 0))) := by
    have := BoolMap.made (P := Try.prog) (k := 44) (e := 4) (kv := brVal) w0
    rw [e1, hsz] at this
    exact this.congr (fun y => by simp)
  have hb1 : Below w0.heap.size w0 w1 := by rw [← e1]; exact (Below.refl _ _).alloc (Nat.le_refl _) _
  have X1 := cell_below hb1 x0
  have B1 : Hid (Below w0.heap.size w0 w1) := hb1
  have SZ := Lib.hid hsz
  clear hb1 x1
  go_enter Try.func23, Try.ntmps23
  go_wp2_with (fail)
  have MP : Hid (∃ nn, nn ≤ 0 ∧ BoolMap Try.prog 44 4 w1 (bx + 1) nn brVal (fun y => decide (y ∈ D.nodes.take 0))) := ⟨0, Nat.le_refl _, M1.out⟩
  go_loopw [15] (fun i wr => ∃ j : Nat, j ≤ D.nodes.length ∧ i = .int .i64 j ∧ Hid (Below w0.heap.size w0 wr) ∧ Hid (∃ nn, nn ≤ j ∧ BoolMap Try.prog 44 4 wr (bx + 1) nn brVal (fun y => decide (y ∈ D.nodes.take j))) ∧ Hid (Wf (D.nodes.take j))) (fun i _ => D.nodes.length - (intOf i).toNat)
  case atStart => exact ⟨0, Nat.zero_le _, rfl, B1, MP, by show Wf _; simp; exact .nil⟩
  case round =>
    clear MP M1 e1 X1 B1 x0 hw0q
    obtain ⟨j, hj, rfl, BR, MR, WR⟩ := hrel
    have hj0 : (0 : Int) ≤ (j : Int) := by omega
    have HHr : Hid (DgAt wr NoB (.agg #[.slice a D.nodes.length c, .int .i64 D.root]) D) := HH.out.below BR.out
    have x0 := (box2 (heap_below BR.out HB.out)).1
    have x1 := (box2 (heap_below BR.out HB.out)).2
    by_cases hlt : j < D.nodes.length
    · obtain ⟨b, off, rfl, -, -, c0, c1, c2⟩ := HHr.out.brs.get j hlt
      obtain ⟨x, hx⟩ : ∃ x, D.nodes[j] = x := ⟨_, rfl⟩
      have hxi : x.In := hx ▸ HIN.out.nodes _ (List.getElem_mem hlt)
      rw [hx] at c0 c1 c2
      obtain ⟨w2, bq, e2, hbq, hsz2, h2, hb2⟩ := laid wr (br3 x.v x.l x.h) 44
      obtain ⟨y0, y1, y2⟩ := box3 h2
      obtain ⟨nn, hnn, hmr⟩ := MR.out
      have hm2 : BoolMap Try.prog 44 4 w2 (bx + 1) nn brVal (fun y => decide (y ∈ D.nodes.take j)) := hmr.step (Step.of_below hb2 NoB) (fun h => h)
      have hk := hm2.look lawBr Try.underlying79 Try.underlying4 (zeroBool w2) x (keyBr x hxi)
      simp only [brVal] at hk
      have HX := Lib.hid hx; have H2 := Lib.hid h2; have HB2 := Lib.hid hb2; have HM2 := Lib.hid hm2; have HXI := Lib.hid hxi; have HNN := Lib.hid hnn
      have hj1 : (j : Int) < (D.nodes.length : Int) := by omega
      have hj2 : (D.nodes.length : Int) ≤ 4096 := by omega
      have BAD : Hid (¬ BrOk (D.nodes.take j) x → code D = 20) := fun hn => code_bad hsm (fun hv => hn (HX.out ▸ ((valid_iff D).1 hv).1.brOk j hlt))
      have LT : Hid ((D.nodes.take j).length = j) := by show _ = _; rw [List.length_take]; omega
      have B2 : Hid (Below w.heap.size w w2) := (B0.out.trans (BR.out.mono B0.out.size)).trans (hb2.mono (Nat.le_trans B0.out.size BR.out.size))
      clear hx h2 hb2 hm2 hmr hxi hnn MR
      by_cases hmem : x ∈ D.nodes.take j
      · rw [decide_eq_true hmem] at hk
        have HC : Hid (code D = 20) := BAD.out (fun hb => hb.fresh hmem)
        clear hmem
        go_wp2_with (with_reducible refine wpList_store_last rfl 44 (.tmp 5) (.tmp 19) rfl (br3 0 0 0) (br3 x.v x.l x.h) rfl rfl sizebr rfl (br3_one _ _ _) ?_)
        all_goals
          go_ret
          exact ⟨by rw [HC.out]; rfl, by first | exact B2.out | (rw [← BX.out]; exact B2.out)⟩
      · rw [decide_eq_false hmem] at hk
        have HMEM := Lib.hid hmem
        clear hmem
        go_wp2_with (with_reducible refine wpList_store_last rfl 44 (.tmp 5) (.tmp 19) rfl (br3 0 0 0) (br3 x.v x.l x.h) rfl rfl sizebr rfl (br3_one _ _ _) ?_)
        all_goals first
          | (go_ret
             have hc : code D = 20 := BAD.out (fun hb => by
               have f1 := hb.v0; have f2 := hb.v1; have f3 := hb.l0; have f4 := hb.h0; have f5 := hb.l1; have f6 := hb.h1; have f7 := hb.ne
               rw [LT.out] at f5 f6
               omega)
             exact ⟨by rw [hc]; rfl, by first | exact B2.out | (rw [← BX.out]; exact B2.out)⟩)
          | (exfalso
             have hq := (by assumption : (((((x.v < 0 ∨ 63 < x.v) ∨ x.l < 0) ∨ x.h < 0) ∨ (j : Int) + 1 < x.l) ∨ (j : Int) + 1 < x.h) ∨ (x.l == x.h) = true)
             rw [beq_iff_eq] at hq
             omega)
          | skip
        have v0 : 0 ≤ x.v := by omega
        have v1 : x.v ≤ 63 := by omega
        have l0 : 0 ≤ x.l := by omega
        have h0 : 0 ≤ x.h := by omega
        have l1 : x.l ≤ (j : Int) + 1 := by omega
        have h1 : x.h ≤ (j : Int) + 1 := by omega
        have ne : Hid (x.l ≠ x.h) := by show _ ≠ _; omega
        have DQ : Hid (∀ w', Below w2.heap.size w2 w' → DgAt w' NoB (.agg #[.slice (some ⟨b, off, none⟩) D.nodes.length c, .int .i64 D.root]) D) := fun w' hb => (HHr.out.below HB2.out).below hb
        have RX : Hid (∀ w' : World, Below w2.heap.size w2 w' → w'.cell? ⟨bx, 0, none⟩ = some (.slice (some ⟨b, off, none⟩) D.nodes.length c) ∧ w'.cell? ⟨bx, 1, none⟩ = some (.int .i64 D.root) ∧ w'.cell? ⟨bq, 0, none⟩ = some (.int .i64 x.v) ∧ w'.cell? ⟨bq, 1, none⟩ = some (.int .i64 x.l) ∧ w'.cell? ⟨bq, 2, none⟩ = some (.int .i64 x.h)) := fun w' hb => by
          obtain ⟨q0, q1, q2⟩ := box3 (heap_below hb H2.out)
          obtain ⟨p0, p1⟩ := box2 (heap_below hb (heap_below HB2.out (heap_below BR.out HB.out)))
          exact ⟨p0, p1, q0, q1, q2⟩
        have hl1 : x.l < (D.nodes.length : Int) + 2 := by omega
        have hl2 : x.h < (D.nodes.length : Int) + 2 := by omega
        obtain ⟨ll, hll⟩ : ∃ ll, level D.nodes x.l = ll := ⟨_, rfl⟩
        obtain ⟨lh, hlh⟩ : ∃ lh, level D.nodes x.h = lh := ⟨_, rfl⟩
        have HLL := Lib.hid hll; have HLH := Lib.hid hlh
        clear hll hlh
        by_cases hlo : ll ≤ x.v
        · have HC : Hid (code D = 20) := BAD.out (fun hb => by
            have := hb.ll
            rw [level_take _ _ hj _ (by omega), HLL.out] at this
            omega)
          clear y0 y1 y2 hk c0 c1 c2
          refine wp_region_held_drew (S := fun w' => w'.cell? ⟨bx, 0, none⟩ = some (.slice (some ⟨b, off, none⟩) D.nodes.length c) ∧ w'.cell? ⟨bx, 1, none⟩ = some (.int .i64 D.root) ∧ w'.cell? ⟨bq, 0, none⟩ = some (.int .i64 x.v) ∧ w'.cell? ⟨bq, 1, none⟩ = some (.int .i64 x.l) ∧ w'.cell? ⟨bq, 2, none⟩ = some (.int .i64 x.h)) (by kernel_rfl) (RX.out _ (Below.refl _ _).drew) (fun hS => ?_)
          refine wpAnyH_take (i := 0) (v := .agg #[.slice (some ⟨b, off, none⟩) D.nodes.length c, .int .i64 D.root]) rfl (by kernel_rfl) (by kernel_rfl) (by kernel_rfl) (fun _ _ _ h => h) (Or.inl ⟨by rfl, ?_⟩) hS ?_
          · intro w hSw
            go_split_ands
            go_simp
          try simp only [Act.put, List.getElem_toArray, List.getElem_cons_zero, List.getElem_cons_succ, List.setIfInBounds_toArray, List.set_cons_zero, List.set_cons_succ]
          refine wpAnyH_take (i := 1) (v := .pointer (some ⟨bq, 1, none⟩)) rfl (by kernel_rfl) (by kernel_rfl) (by kernel_rfl) (fun _ _ _ h => h) (Or.inl ⟨by rfl, ?_⟩) hS ?_
          · intro w hSw
            go_split_ands
            go_simp
          try simp only [Act.put, List.getElem_toArray, List.getElem_cons_zero, List.getElem_cons_succ, List.setIfInBounds_toArray, List.set_cons_zero, List.set_cons_succ]
          refine wpAnyH_take (i := 2) (v := .int .i64 x.l) rfl (by kernel_rfl) (by kernel_rfl) (by kernel_rfl) (fun _ _ _ h => h) (Or.inl ⟨by rfl, ?_⟩) hS ?_
          · intro w hSw
            go_split_ands
            go_simp
          try simp only [Act.put, List.getElem_toArray, List.getElem_cons_zero, List.getElem_cons_succ, List.setIfInBounds_toArray, List.set_cons_zero, List.set_cons_succ]
          refine wpAnyH_take (i := 4) (v := .pointer (some ⟨bq, 0, none⟩)) rfl (by kernel_rfl) (by kernel_rfl) (by kernel_rfl) (fun _ _ _ h => h) (Or.inl ⟨by rfl, ?_⟩) hS ?_
          · intro w hSw
            go_split_ands
            go_simp
          try simp only [Act.put, List.getElem_toArray, List.getElem_cons_zero, List.getElem_cons_succ, List.setIfInBounds_toArray, List.set_cons_zero, List.set_cons_succ]
          refine wpAnyH_take (i := 5) (v := .int .i64 x.v) rfl (by kernel_rfl) (by kernel_rfl) (by kernel_rfl) (fun _ _ _ h => h) (Or.inl ⟨by rfl, ?_⟩) hS ?_
          · intro w hSw
            go_split_ands
            go_simp
          try simp only [Act.put, List.getElem_toArray, List.getElem_cons_zero, List.getElem_cons_succ, List.setIfInBounds_toArray, List.set_cons_zero, List.set_cons_succ]
          refine wpAnyH_ready (rs := [3]) (by kernel_rfl) (by simp) ?_
          refine AllReadyH.cons rfl (fun K hK => ?_) AllReadyH.nil
          try simp only [Act.put, List.getElem_toArray, List.getElem_cons_zero, List.getElem_cons_succ, List.setIfInBounds_toArray, List.set_cons_zero, List.set_cons_succ]
          go_simp
          refine (level_any w2.drew _ D (DQ.out _ (Below.refl _ _).drew) x.l hl1).mono ?_
          rintro e w3 ⟨rfl, hb3⟩
          rw [HLL.out]
          have BL1 : Hid (Below w2.heap.size w2 w3) := (Below.refl _ w2).drew.trans (hb3.mono (Nat.le_refl _))
          clear hb3
          refine hK.out _ _ (RX.out _ BL1.out) (fun hS => ?_)
          clear hK K
          try simp only [Act.put, List.getElem_toArray, List.getElem_cons_zero, List.getElem_cons_succ, List.setIfInBounds_toArray, List.set_cons_zero, List.set_cons_succ]
          refine wpAnyH_take (i := 6) (v := .bool true) rfl (by kernel_rfl) (by kernel_rfl) (by kernel_rfl) (fun _ _ _ h => h) (Or.inl ⟨by rfl, ?_⟩) hS ?_
          · intro w hSw
            go_split_ands
            go_simp
          try simp only [Act.put, List.getElem_toArray, List.getElem_cons_zero, List.getElem_cons_succ, List.setIfInBounds_toArray, List.set_cons_zero, List.set_cons_succ]
          refine wpAnyH_take (i := 7) (v := .bool true) rfl (by kernel_rfl) (by kernel_rfl) (by kernel_rfl) (fun _ _ _ h => h) (Or.inl ⟨by rfl, ?_⟩) hS ?_
          · intro w hSw
            go_split_ands
            go_simp
          try simp only [Act.put, List.getElem_toArray, List.getElem_cons_zero, List.getElem_cons_succ, List.setIfInBounds_toArray, List.set_cons_zero, List.set_cons_succ]
          refine wpAnyH_take (i := 8) (v := undef) rfl (by kernel_rfl) (by kernel_rfl) (by kernel_rfl) (fun _ _ _ h => h) (Or.inr ⟨by rfl, rfl⟩) hS ?_
          try simp only [Act.put, List.getElem_toArray, List.getElem_cons_zero, List.getElem_cons_succ, List.setIfInBounds_toArray, List.set_cons_zero, List.set_cons_succ]
          refine wpAnyH_take (i := 9) (v := undef) rfl (by kernel_rfl) (by kernel_rfl) (by kernel_rfl) (fun _ _ _ h => h) (Or.inr ⟨by rfl, rfl⟩) hS ?_
          try simp only [Act.put, List.getElem_toArray, List.getElem_cons_zero, List.getElem_cons_succ, List.setIfInBounds_toArray, List.set_cons_zero, List.set_cons_succ]
          refine wpAnyH_take (i := 10) (v := undef) rfl (by kernel_rfl) (by kernel_rfl) (by kernel_rfl) (fun _ _ _ h => h) (Or.inr ⟨by rfl, rfl⟩) hS ?_
          try simp only [Act.put, List.getElem_toArray, List.getElem_cons_zero, List.getElem_cons_succ, List.setIfInBounds_toArray, List.set_cons_zero, List.set_cons_succ]
          refine wpAnyH_take (i := 11) (v := undef) rfl (by kernel_rfl) (by kernel_rfl) (by kernel_rfl) (fun _ _ _ h => h) (Or.inr ⟨by rfl, rfl⟩) hS ?_
          try simp only [Act.put, List.getElem_toArray, List.getElem_cons_zero, List.getElem_cons_succ, List.setIfInBounds_toArray, List.set_cons_zero, List.set_cons_succ]
          refine wpAnyH_take (i := 12) (v := undef) rfl (by kernel_rfl) (by kernel_rfl) (by kernel_rfl) (fun _ _ _ h => h) (Or.inr ⟨by rfl, rfl⟩) hS ?_
          try simp only [Act.put, List.getElem_toArray, List.getElem_cons_zero, List.getElem_cons_succ, List.setIfInBounds_toArray, List.set_cons_zero, List.set_cons_succ]
          refine wpAnyH_take (i := 13) (v := undef) rfl (by kernel_rfl) (by kernel_rfl) (by kernel_rfl) (fun _ _ _ h => h) (Or.inr ⟨by rfl, rfl⟩) hS ?_
          try simp only [Act.put, List.getElem_toArray, List.getElem_cons_zero, List.getElem_cons_succ, List.setIfInBounds_toArray, List.set_cons_zero, List.set_cons_succ]
          refine wpAnyH_take (i := 14) (v := undef) rfl (by kernel_rfl) (by kernel_rfl) (by kernel_rfl) (fun _ _ _ h => h) (Or.inr ⟨by rfl, rfl⟩) hS ?_
          try simp only [Act.put, List.getElem_toArray, List.getElem_cons_zero, List.getElem_cons_succ, List.setIfInBounds_toArray, List.set_cons_zero, List.set_cons_succ]
          refine wpAnyH_take (i := 15) (v := .bool true) rfl (by kernel_rfl) (by kernel_rfl) (by kernel_rfl) (fun _ _ _ h => h) (Or.inl ⟨by rfl, ?_⟩) hS ?_
          · intro w hSw
            go_split_ands
            go_simp
          try simp only [Act.put, List.getElem_toArray, List.getElem_cons_zero, List.getElem_cons_succ, List.setIfInBounds_toArray, List.set_cons_zero, List.set_cons_succ]
          refine wpAnyH_done (by kernel_rfl) ?_ _
          try simp only [Act.put, List.getElem_toArray, List.getElem_cons_zero, List.getElem_cons_succ, List.setIfInBounds_toArray, List.set_cons_zero, List.set_cons_succ]
          have B3 : Hid (Below w.heap.size w w3) := B2.out.trans (BL1.out.mono B2.out.size)
          go_wp2_with (fail)
          go_ret
          exact ⟨by rw [HC.out]; rfl, by first | exact B3.out | (rw [← BX.out]; exact B3.out)⟩
        · by_cases hhi : lh ≤ x.v
          · have HC : Hid (code D = 20) := BAD.out (fun hb => by
              have := hb.lh
              rw [level_take _ _ hj _ (by omega), HLH.out] at this
              omega)
            clear y0 y1 y2 hk c0 c1 c2
            refine wp_region_held_drew (S := fun w' => w'.cell? ⟨bx, 0, none⟩ = some (.slice (some ⟨b, off, none⟩) D.nodes.length c) ∧ w'.cell? ⟨bx, 1, none⟩ = some (.int .i64 D.root) ∧ w'.cell? ⟨bq, 0, none⟩ = some (.int .i64 x.v) ∧ w'.cell? ⟨bq, 1, none⟩ = some (.int .i64 x.l) ∧ w'.cell? ⟨bq, 2, none⟩ = some (.int .i64 x.h)) (by kernel_rfl) (RX.out _ (Below.refl _ _).drew) (fun hS => ?_)
            refine wpAnyH_take (i := 0) (v := .agg #[.slice (some ⟨b, off, none⟩) D.nodes.length c, .int .i64 D.root]) rfl (by kernel_rfl) (by kernel_rfl) (by kernel_rfl) (fun _ _ _ h => h) (Or.inl ⟨by rfl, ?_⟩) hS ?_
            · intro w hSw
              go_split_ands
              go_simp
            try simp only [Act.put, List.getElem_toArray, List.getElem_cons_zero, List.getElem_cons_succ, List.setIfInBounds_toArray, List.set_cons_zero, List.set_cons_succ]
            refine wpAnyH_take (i := 1) (v := .pointer (some ⟨bq, 1, none⟩)) rfl (by kernel_rfl) (by kernel_rfl) (by kernel_rfl) (fun _ _ _ h => h) (Or.inl ⟨by rfl, ?_⟩) hS ?_
            · intro w hSw
              go_split_ands
              go_simp
            try simp only [Act.put, List.getElem_toArray, List.getElem_cons_zero, List.getElem_cons_succ, List.setIfInBounds_toArray, List.set_cons_zero, List.set_cons_succ]
            refine wpAnyH_take (i := 2) (v := .int .i64 x.l) rfl (by kernel_rfl) (by kernel_rfl) (by kernel_rfl) (fun _ _ _ h => h) (Or.inl ⟨by rfl, ?_⟩) hS ?_
            · intro w hSw
              go_split_ands
              go_simp
            try simp only [Act.put, List.getElem_toArray, List.getElem_cons_zero, List.getElem_cons_succ, List.setIfInBounds_toArray, List.set_cons_zero, List.set_cons_succ]
            refine wpAnyH_take (i := 4) (v := .pointer (some ⟨bq, 0, none⟩)) rfl (by kernel_rfl) (by kernel_rfl) (by kernel_rfl) (fun _ _ _ h => h) (Or.inl ⟨by rfl, ?_⟩) hS ?_
            · intro w hSw
              go_split_ands
              go_simp
            try simp only [Act.put, List.getElem_toArray, List.getElem_cons_zero, List.getElem_cons_succ, List.setIfInBounds_toArray, List.set_cons_zero, List.set_cons_succ]
            refine wpAnyH_take (i := 5) (v := .int .i64 x.v) rfl (by kernel_rfl) (by kernel_rfl) (by kernel_rfl) (fun _ _ _ h => h) (Or.inl ⟨by rfl, ?_⟩) hS ?_
            · intro w hSw
              go_split_ands
              go_simp
            try simp only [Act.put, List.getElem_toArray, List.getElem_cons_zero, List.getElem_cons_succ, List.setIfInBounds_toArray, List.set_cons_zero, List.set_cons_succ]
            refine wpAnyH_ready (rs := [3]) (by kernel_rfl) (by simp) ?_
            refine AllReadyH.cons rfl (fun K hK => ?_) AllReadyH.nil
            try simp only [Act.put, List.getElem_toArray, List.getElem_cons_zero, List.getElem_cons_succ, List.setIfInBounds_toArray, List.set_cons_zero, List.set_cons_succ]
            go_simp
            refine (level_any w2.drew _ D (DQ.out _ (Below.refl _ _).drew) x.l hl1).mono ?_
            rintro e w3 ⟨rfl, hb3⟩
            rw [HLL.out]
            have BL1 : Hid (Below w2.heap.size w2 w3) := (Below.refl _ w2).drew.trans (hb3.mono (Nat.le_refl _))
            clear hb3
            refine hK.out _ _ (RX.out _ BL1.out) (fun hS => ?_)
            clear hK K
            try simp only [Act.put, List.getElem_toArray, List.getElem_cons_zero, List.getElem_cons_succ, List.setIfInBounds_toArray, List.set_cons_zero, List.set_cons_succ]
            refine wpAnyH_take (i := 6) (v := .bool false) rfl (by kernel_rfl) (by kernel_rfl) (by kernel_rfl) (fun _ _ _ h => h) (Or.inl ⟨by rfl, ?_⟩) hS ?_
            · intro w hSw
              go_split_ands
              go_simp
            try simp only [Act.put, List.getElem_toArray, List.getElem_cons_zero, List.getElem_cons_succ, List.setIfInBounds_toArray, List.set_cons_zero, List.set_cons_succ]
            refine wpAnyH_take (i := 7) (v := .bool false) rfl (by kernel_rfl) (by kernel_rfl) (by kernel_rfl) (fun _ _ _ h => h) (Or.inl ⟨by rfl, ?_⟩) hS ?_
            · intro w hSw
              go_split_ands
              go_simp
            try simp only [Act.put, List.getElem_toArray, List.getElem_cons_zero, List.getElem_cons_succ, List.setIfInBounds_toArray, List.set_cons_zero, List.set_cons_succ]
            refine wpAnyH_take (i := 8) (v := .agg #[.slice (some ⟨b, off, none⟩) D.nodes.length c, .int .i64 D.root]) rfl (by kernel_rfl) (by kernel_rfl) (by kernel_rfl) (fun _ _ _ h => h) (Or.inl ⟨by rfl, ?_⟩) hS ?_
            · intro w hSw
              go_split_ands
              go_simp
            try simp only [Act.put, List.getElem_toArray, List.getElem_cons_zero, List.getElem_cons_succ, List.setIfInBounds_toArray, List.set_cons_zero, List.set_cons_succ]
            refine wpAnyH_take (i := 9) (v := .pointer (some ⟨bq, 2, none⟩)) rfl (by kernel_rfl) (by kernel_rfl) (by kernel_rfl) (fun _ _ _ h => h) (Or.inl ⟨by rfl, ?_⟩) hS ?_
            · intro w hSw
              go_split_ands
              go_simp
            try simp only [Act.put, List.getElem_toArray, List.getElem_cons_zero, List.getElem_cons_succ, List.setIfInBounds_toArray, List.set_cons_zero, List.set_cons_succ]
            refine wpAnyH_take (i := 10) (v := .int .i64 x.h) rfl (by kernel_rfl) (by kernel_rfl) (by kernel_rfl) (fun _ _ _ h => h) (Or.inl ⟨by rfl, ?_⟩) hS ?_
            · intro w hSw
              go_split_ands
              go_simp
            try simp only [Act.put, List.getElem_toArray, List.getElem_cons_zero, List.getElem_cons_succ, List.setIfInBounds_toArray, List.set_cons_zero, List.set_cons_succ]
            refine wpAnyH_take (i := 12) (v := .pointer (some ⟨bq, 0, none⟩)) rfl (by kernel_rfl) (by kernel_rfl) (by kernel_rfl) (fun _ _ _ h => h) (Or.inl ⟨by rfl, ?_⟩) hS ?_
            · intro w hSw
              go_split_ands
              go_simp
            try simp only [Act.put, List.getElem_toArray, List.getElem_cons_zero, List.getElem_cons_succ, List.setIfInBounds_toArray, List.set_cons_zero, List.set_cons_succ]
            refine wpAnyH_take (i := 13) (v := .int .i64 x.v) rfl (by kernel_rfl) (by kernel_rfl) (by kernel_rfl) (fun _ _ _ h => h) (Or.inl ⟨by rfl, ?_⟩) hS ?_
            · intro w hSw
              go_split_ands
              go_simp
            try simp only [Act.put, List.getElem_toArray, List.getElem_cons_zero, List.getElem_cons_succ, List.setIfInBounds_toArray, List.set_cons_zero, List.set_cons_succ]
            refine wpAnyH_ready (rs := [11]) (by kernel_rfl) (by simp) ?_
            refine AllReadyH.cons rfl (fun K hK => ?_) AllReadyH.nil
            try simp only [Act.put, List.getElem_toArray, List.getElem_cons_zero, List.getElem_cons_succ, List.setIfInBounds_toArray, List.set_cons_zero, List.set_cons_succ]
            go_simp
            refine (level_any w3 _ D (DQ.out _ BL1.out) x.h hl2).mono ?_
            rintro e w4 ⟨rfl, hb4⟩
            rw [HLH.out]
            have BL2 : Hid (Below w2.heap.size w2 w4) := BL1.out.trans (hb4.mono BL1.out.size)
            clear hb4
            refine hK.out _ _ (RX.out _ BL2.out) (fun hS => ?_)
            clear hK K
            try simp only [Act.put, List.getElem_toArray, List.getElem_cons_zero, List.getElem_cons_succ, List.setIfInBounds_toArray, List.set_cons_zero, List.set_cons_succ]
            refine wpAnyH_take (i := 14) (v := .bool true) rfl (by kernel_rfl) (by kernel_rfl) (by kernel_rfl) (fun _ _ _ h => h) (Or.inl ⟨by rfl, ?_⟩) hS ?_
            · intro w hSw
              go_split_ands
              go_simp
            try simp only [Act.put, List.getElem_toArray, List.getElem_cons_zero, List.getElem_cons_succ, List.setIfInBounds_toArray, List.set_cons_zero, List.set_cons_succ]
            refine wpAnyH_take (i := 15) (v := .bool true) rfl (by kernel_rfl) (by kernel_rfl) (by kernel_rfl) (fun _ _ _ h => h) (Or.inl ⟨by rfl, ?_⟩) hS ?_
            · intro w hSw
              go_split_ands
              go_simp
            try simp only [Act.put, List.getElem_toArray, List.getElem_cons_zero, List.getElem_cons_succ, List.setIfInBounds_toArray, List.set_cons_zero, List.set_cons_succ]
            refine wpAnyH_done (by kernel_rfl) ?_ _
            try simp only [Act.put, List.getElem_toArray, List.getElem_cons_zero, List.getElem_cons_succ, List.setIfInBounds_toArray, List.set_cons_zero, List.set_cons_succ]
            have B3 : Hid (Below w.heap.size w w4) := B2.out.trans (BL2.out.mono B2.out.size)
            go_wp2_with (fail)
            go_ret
            exact ⟨by rw [HC.out]; rfl, by first | exact B3.out | (rw [← BX.out]; exact B3.out)⟩
          · have BOK : Hid (BrOk (D.nodes.take j) x) := ⟨v0, v1, l0, h0, by rw [LT.out]; exact l1, by rw [LT.out]; exact h1, ne.out, HMEM.out, by rw [level_take _ _ hj _ (by omega), HLL.out]; omega, by rw [level_take _ _ hj _ (by omega), HLH.out]; omega⟩
            clear y0 y1 y2 hk c0 c1 c2
            refine wp_region_held_drew (S := fun w' => w'.cell? ⟨bx, 0, none⟩ = some (.slice (some ⟨b, off, none⟩) D.nodes.length c) ∧ w'.cell? ⟨bx, 1, none⟩ = some (.int .i64 D.root) ∧ w'.cell? ⟨bq, 0, none⟩ = some (.int .i64 x.v) ∧ w'.cell? ⟨bq, 1, none⟩ = some (.int .i64 x.l) ∧ w'.cell? ⟨bq, 2, none⟩ = some (.int .i64 x.h)) (by kernel_rfl) (RX.out _ (Below.refl _ _).drew) (fun hS => ?_)
            refine wpAnyH_take (i := 0) (v := .agg #[.slice (some ⟨b, off, none⟩) D.nodes.length c, .int .i64 D.root]) rfl (by kernel_rfl) (by kernel_rfl) (by kernel_rfl) (fun _ _ _ h => h) (Or.inl ⟨by rfl, ?_⟩) hS ?_
            · intro w hSw
              go_split_ands
              go_simp
            try simp only [Act.put, List.getElem_toArray, List.getElem_cons_zero, List.getElem_cons_succ, List.setIfInBounds_toArray, List.set_cons_zero, List.set_cons_succ]
            refine wpAnyH_take (i := 1) (v := .pointer (some ⟨bq, 1, none⟩)) rfl (by kernel_rfl) (by kernel_rfl) (by kernel_rfl) (fun _ _ _ h => h) (Or.inl ⟨by rfl, ?_⟩) hS ?_
            · intro w hSw
              go_split_ands
              go_simp
            try simp only [Act.put, List.getElem_toArray, List.getElem_cons_zero, List.getElem_cons_succ, List.setIfInBounds_toArray, List.set_cons_zero, List.set_cons_succ]
            refine wpAnyH_take (i := 2) (v := .int .i64 x.l) rfl (by kernel_rfl) (by kernel_rfl) (by kernel_rfl) (fun _ _ _ h => h) (Or.inl ⟨by rfl, ?_⟩) hS ?_
            · intro w hSw
              go_split_ands
              go_simp
            try simp only [Act.put, List.getElem_toArray, List.getElem_cons_zero, List.getElem_cons_succ, List.setIfInBounds_toArray, List.set_cons_zero, List.set_cons_succ]
            refine wpAnyH_take (i := 4) (v := .pointer (some ⟨bq, 0, none⟩)) rfl (by kernel_rfl) (by kernel_rfl) (by kernel_rfl) (fun _ _ _ h => h) (Or.inl ⟨by rfl, ?_⟩) hS ?_
            · intro w hSw
              go_split_ands
              go_simp
            try simp only [Act.put, List.getElem_toArray, List.getElem_cons_zero, List.getElem_cons_succ, List.setIfInBounds_toArray, List.set_cons_zero, List.set_cons_succ]
            refine wpAnyH_take (i := 5) (v := .int .i64 x.v) rfl (by kernel_rfl) (by kernel_rfl) (by kernel_rfl) (fun _ _ _ h => h) (Or.inl ⟨by rfl, ?_⟩) hS ?_
            · intro w hSw
              go_split_ands
              go_simp
            try simp only [Act.put, List.getElem_toArray, List.getElem_cons_zero, List.getElem_cons_succ, List.setIfInBounds_toArray, List.set_cons_zero, List.set_cons_succ]
            refine wpAnyH_ready (rs := [3]) (by kernel_rfl) (by simp) ?_
            refine AllReadyH.cons rfl (fun K hK => ?_) AllReadyH.nil
            try simp only [Act.put, List.getElem_toArray, List.getElem_cons_zero, List.getElem_cons_succ, List.setIfInBounds_toArray, List.set_cons_zero, List.set_cons_succ]
            go_simp
            refine (level_any w2.drew _ D (DQ.out _ (Below.refl _ _).drew) x.l hl1).mono ?_
            rintro e w3 ⟨rfl, hb3⟩
            rw [HLL.out]
            have BL1 : Hid (Below w2.heap.size w2 w3) := (Below.refl _ w2).drew.trans (hb3.mono (Nat.le_refl _))
            clear hb3
            refine hK.out _ _ (RX.out _ BL1.out) (fun hS => ?_)
            clear hK K
            try simp only [Act.put, List.getElem_toArray, List.getElem_cons_zero, List.getElem_cons_succ, List.setIfInBounds_toArray, List.set_cons_zero, List.set_cons_succ]
            refine wpAnyH_take (i := 6) (v := .bool false) rfl (by kernel_rfl) (by kernel_rfl) (by kernel_rfl) (fun _ _ _ h => h) (Or.inl ⟨by rfl, ?_⟩) hS ?_
            · intro w hSw
              go_split_ands
              go_simp
            try simp only [Act.put, List.getElem_toArray, List.getElem_cons_zero, List.getElem_cons_succ, List.setIfInBounds_toArray, List.set_cons_zero, List.set_cons_succ]
            refine wpAnyH_take (i := 7) (v := .bool false) rfl (by kernel_rfl) (by kernel_rfl) (by kernel_rfl) (fun _ _ _ h => h) (Or.inl ⟨by rfl, ?_⟩) hS ?_
            · intro w hSw
              go_split_ands
              go_simp
            try simp only [Act.put, List.getElem_toArray, List.getElem_cons_zero, List.getElem_cons_succ, List.setIfInBounds_toArray, List.set_cons_zero, List.set_cons_succ]
            refine wpAnyH_take (i := 8) (v := .agg #[.slice (some ⟨b, off, none⟩) D.nodes.length c, .int .i64 D.root]) rfl (by kernel_rfl) (by kernel_rfl) (by kernel_rfl) (fun _ _ _ h => h) (Or.inl ⟨by rfl, ?_⟩) hS ?_
            · intro w hSw
              go_split_ands
              go_simp
            try simp only [Act.put, List.getElem_toArray, List.getElem_cons_zero, List.getElem_cons_succ, List.setIfInBounds_toArray, List.set_cons_zero, List.set_cons_succ]
            refine wpAnyH_take (i := 9) (v := .pointer (some ⟨bq, 2, none⟩)) rfl (by kernel_rfl) (by kernel_rfl) (by kernel_rfl) (fun _ _ _ h => h) (Or.inl ⟨by rfl, ?_⟩) hS ?_
            · intro w hSw
              go_split_ands
              go_simp
            try simp only [Act.put, List.getElem_toArray, List.getElem_cons_zero, List.getElem_cons_succ, List.setIfInBounds_toArray, List.set_cons_zero, List.set_cons_succ]
            refine wpAnyH_take (i := 10) (v := .int .i64 x.h) rfl (by kernel_rfl) (by kernel_rfl) (by kernel_rfl) (fun _ _ _ h => h) (Or.inl ⟨by rfl, ?_⟩) hS ?_
            · intro w hSw
              go_split_ands
              go_simp
            try simp only [Act.put, List.getElem_toArray, List.getElem_cons_zero, List.getElem_cons_succ, List.setIfInBounds_toArray, List.set_cons_zero, List.set_cons_succ]
            refine wpAnyH_take (i := 12) (v := .pointer (some ⟨bq, 0, none⟩)) rfl (by kernel_rfl) (by kernel_rfl) (by kernel_rfl) (fun _ _ _ h => h) (Or.inl ⟨by rfl, ?_⟩) hS ?_
            · intro w hSw
              go_split_ands
              go_simp
            try simp only [Act.put, List.getElem_toArray, List.getElem_cons_zero, List.getElem_cons_succ, List.setIfInBounds_toArray, List.set_cons_zero, List.set_cons_succ]
            refine wpAnyH_take (i := 13) (v := .int .i64 x.v) rfl (by kernel_rfl) (by kernel_rfl) (by kernel_rfl) (fun _ _ _ h => h) (Or.inl ⟨by rfl, ?_⟩) hS ?_
            · intro w hSw
              go_split_ands
              go_simp
            try simp only [Act.put, List.getElem_toArray, List.getElem_cons_zero, List.getElem_cons_succ, List.setIfInBounds_toArray, List.set_cons_zero, List.set_cons_succ]
            refine wpAnyH_ready (rs := [11]) (by kernel_rfl) (by simp) ?_
            refine AllReadyH.cons rfl (fun K hK => ?_) AllReadyH.nil
            try simp only [Act.put, List.getElem_toArray, List.getElem_cons_zero, List.getElem_cons_succ, List.setIfInBounds_toArray, List.set_cons_zero, List.set_cons_succ]
            go_simp
            refine (level_any w3 _ D (DQ.out _ BL1.out) x.h hl2).mono ?_
            rintro e w4 ⟨rfl, hb4⟩
            rw [HLH.out]
            have BL2 : Hid (Below w2.heap.size w2 w4) := BL1.out.trans (hb4.mono BL1.out.size)
            clear hb4
            refine hK.out _ _ (RX.out _ BL2.out) (fun hS => ?_)
            clear hK K
            try simp only [Act.put, List.getElem_toArray, List.getElem_cons_zero, List.getElem_cons_succ, List.setIfInBounds_toArray, List.set_cons_zero, List.set_cons_succ]
            refine wpAnyH_take (i := 14) (v := .bool false) rfl (by kernel_rfl) (by kernel_rfl) (by kernel_rfl) (fun _ _ _ h => h) (Or.inl ⟨by rfl, ?_⟩) hS ?_
            · intro w hSw
              go_split_ands
              go_simp
            try simp only [Act.put, List.getElem_toArray, List.getElem_cons_zero, List.getElem_cons_succ, List.setIfInBounds_toArray, List.set_cons_zero, List.set_cons_succ]
            refine wpAnyH_take (i := 15) (v := .bool false) rfl (by kernel_rfl) (by kernel_rfl) (by kernel_rfl) (fun _ _ _ h => h) (Or.inl ⟨by rfl, ?_⟩) hS ?_
            · intro w hSw
              go_split_ands
              go_simp
            try simp only [Act.put, List.getElem_toArray, List.getElem_cons_zero, List.getElem_cons_succ, List.setIfInBounds_toArray, List.set_cons_zero, List.set_cons_succ]
            refine wpAnyH_done (by kernel_rfl) ?_ _
            try simp only [Act.put, List.getElem_toArray, List.getElem_cons_zero, List.getElem_cons_succ, List.setIfInBounds_toArray, List.set_cons_zero, List.set_cons_succ]
            obtain ⟨w5, hrun, hm5, hg5, hsz5⟩ := (HM2.out.step (Step.of_below BL2.out NoB) (fun h => h)).store lawBr Try.underlying79 Try.underlying4 (by have := HNN.out; unfold maxLen; omega) brVal_inj x (keyBr x HXI.out) true
            simp only [brVal] at hrun
            obtain ⟨q0, q1, q2⟩ := box3 (heap_below BL2.out H2.out)
            have B5 : Hid (Below w0.heap.size w0 w5) := by
              have h1 : Below w0.heap.size w0 w4 := (BR.out.trans (HB2.out.mono BR.out.size)).trans (BL2.out.mono (Nat.le_trans BR.out.size HB2.out.size))
              exact h1.grown hg5 h1.size (fun k hk => by cases hk; have := SZ.out; omega)
            have M5 : Hid (∃ nn', nn' ≤ j + 1 ∧ BoolMap Try.prog 44 4 w5 (bx + 1) nn' brVal (fun y => decide (y ∈ D.nodes.take (j + 1)))) := by
              refine ⟨nn + 1, by have := HNN.out; omega, hm5.congr (fun y => ?_)⟩
              rw [take_snoc' _ _ hlt, HX.out]
              by_cases hy : y = x
              · rw [if_pos hy]; simp [hy]
              · rw [if_neg hy]; simp [hy]
            have W5 : Hid (Wf (D.nodes.take (j + 1))) := Wf.next j hlt WR.out (HX.out ▸ BOK.out)
            clear hm5 hg5 hsz5
            go_wp2_with (fail)
            go_roundw
            case rel => exact ⟨j + 1, by omega, by go_num, B5, M5, W5⟩
            case measure => simp [intOf]; omega
    · obtain rfl : j = D.nodes.length := by omega
      have WF : Hid (Wf D.nodes) := by show Wf _; have := WR.out; rwa [List.take_length] at this
      have B2 : Hid (Below w.heap.size w wr) := B0.out.trans (BR.out.mono B0.out.size)
      have hj2 : (D.nodes.length : Int) ≤ 4096 := by omega
      clear WR MR
      by_cases hr0 : D.root < 0
      · have HC : Hid (code D = 20) := code_bad hsm (fun hv => by have := ((valid_iff D).1 hv).2.1; omega)
        go_wp2_with (fail)
        go_ret
        exact ⟨by rw [HC.out]; rfl, by first | exact B2.out | (rw [← BX.out]; exact B2.out)⟩
      by_cases hr1 : (D.nodes.length : Int) + 1 < D.root
      · have HC : Hid (code D = 20) := code_bad hsm (fun hv => by have := ((valid_iff D).1 hv).2.2.1; omega)
        go_wp2_with (fail)
        go_ret
        exact ⟨by rw [HC.out]; rfl, by first | exact B2.out | (rw [← BX.out]; exact B2.out)⟩
      obtain ⟨n, hn⟩ : ∃ n : Nat, D.root = (n : Int) := ⟨D.root.toNat, by omega⟩
      have hnl : n < D.nodes.length + 2 := by omega
      have HT : Hid (D.tree = tr D.nodes n) := by show _ = _; unfold Dg.tree; rw [hn, Int.toNat_natCast]
      have HV : Hid (Valid D ↔ (tr D.nodes n).canon = D) := by
        show _ ↔ _
        rw [← HT.out, valid_iff]
        constructor
        · intro h; exact h.2.2.2.symm
        · intro h; exact ⟨WF.out, by omega, by omega, h.symm⟩
      obtain ⟨w2, bq, e2, hbq, hsz2, h2, hb2⟩ := laid wr #[.slice a D.nodes.length c, .map none] 84
      have q0 : w2.cell? ⟨bq, 0, none⟩ = some (.slice a D.nodes.length c) := by rw [cell_of_row w2 bq 0 _ _ _ h2]; rfl
      have HBS : Hid (Brs w2 NoB (.slice a D.nodes.length c) D.nodes) := (HHr.out.below hb2).brs
      have HDW : Hid (DgAt w2 NoB (.agg #[.slice a D.nodes.length c, .int .i64 D.root]) D) := HHr.out.below hb2
      obtain ⟨p0, p1⟩ := box2 (heap_below hb2 (heap_below BR.out HB.out))
      have HB2 := Lib.hid hb2
      have HN := Lib.hid hn
      have HQ0 := Lib.hid q0
      have B3 : Hid (Below w.heap.size w w2) := B2.out.trans (hb2.mono B2.out.size)
      rw [hn] at p1 x1
      clear h2 hb2 hn q0
      go_wp2_with (fail)
      refine (diagram_any w2 bq _ D.nodes HQ0.out HBS.out WF.out (by omega) n hnl).mono ?_
      rintro e w3 ⟨r, rfl, hr, hb3⟩
      have hr' := hr NoB (fun b hb => hb.elim)
      obtain ⟨ra, rc, rfl⟩ := hr'.shape
      obtain ⟨w4, bo, e4, hbo, hsz4, h4, hb4⟩ := laid w3 #[.slice ra (tr D.nodes n).canon.nodes.length rc, .int .i64 (tr D.nodes n).canon.root] 28
      obtain ⟨o0, o1⟩ := box2 h4
      have hb24 := hb3.trans (hb4.mono hb3.size)
      have HR4 : Hid (DgAt w4 NoB (.agg #[.slice ra (tr D.nodes n).canon.nodes.length rc, .int .i64 (tr D.nodes n).canon.root]) (tr D.nodes n).canon) := hr'.below hb4
      have HD4 : Hid (DgAt w4 NoB (.agg #[.slice a D.nodes.length c, .int .i64 D.root]) D) := HDW.out.below hb24
      obtain ⟨p0', p1'⟩ := box2 (heap_below hb24 (heap_below HB2.out (heap_below BR.out HB.out)))
      have B4 : Hid (Below w.heap.size w w4) := B3.out.trans (hb24.mono B3.out.size)
      clear hr hr' h4 hb3 hb4 hb24 p0 p1 x0 x1
      go_wp2_with (with_reducible refine wpList_store_last rfl 28 (.tmp 6) (.tmp 101) rfl dg0 #[.slice ra (tr D.nodes n).canon.nodes.length rc, .int .i64 (tr D.nodes n).canon.root] rfl rfl sizedg rfl (by simp [Value.oneCell']) ?_)
      refine (same_any w4 _ _ (tr D.nodes n).canon D HR4.out HD4.out).mono ?_
      rintro e w5 ⟨rfl, hb5⟩
      have B5 : Hid (Below w.heap.size w w5) := B4.out.trans (hb5.mono B4.out.size)
      clear hb5
      by_cases hcan : (tr D.nodes n).canon = D
      · have HC : Hid (code D = 0) := code_ok hsm (HV.out.2 hcan)
        rw [decide_eq_true hcan]
        clear hcan
        go_wp2_with (fail)
        go_ret
        exact ⟨by rw [HC.out]; rfl, by first | exact B5.out | (rw [← BX.out]; exact B5.out)⟩
      · have HC : Hid (code D = 20) := code_bad hsm (fun hv => hcan (HV.out.1 hv))
        rw [decide_eq_false hcan]
        clear hcan
        go_wp2_with (fail)
        go_ret
        exact ⟨by rw [HC.out]; rfl, by first | exact B5.out | (rw [← BX.out]; exact B5.out)⟩

end Go.Proofs.Ytohmibmakelclaa

namespace Go.Proofs.Ytohmibmakelclaa
set_option linter.unusedVariables false
set_option linter.unusedSimpArgs false
open Go.RowKit

/-- The number that the builder knows of a branch. -/
def knownF (ns : List Br) (b : Br) : Option Int := if b ∈ ns then some ((ns.idxOf b : Int) + 2) else none

/-- The blocks that the builder writes. -/
def BM (mk bb : Nat) (S : Value) : Nat → Prop := fun k => k = mk ∨ k = bb ∨ S.ownBlock = some k

structure BInv (w : World) (B : Nat) (mk bb : Nat) (ns : List Br) (S : Value) : Prop where
  b : w.heap[bb]? = some (.cells #[S, .map (some mk)] 84 (0, 0))
  row : w.ownsRow B 44 3 S ns.length (bcells ns)
  map : ∃ n, n ≤ ns.length ∧ IntMap Try.prog 44 3 w mk n brVal (knownF ns)
  wf : Wf ns
  hbb : B ≤ bb
  hmk : B ≤ mk

section
variable {w : World} {B mk bb : Nat} {ns : List Br} {S : Value}

theorem BInv.away (h : BInv w B mk bb ns S) : (∀ k, BM mk bb S k → B ≤ k) ∧ (∀ k, BM mk bb S k → k < w.heap.size) ∧ mk ≠ bb ∧ S.ownBlock ≠ some mk ∧ S.ownBlock ≠ some bb := by
  obtain ⟨n, -, hm⟩ := h.map
  have lo : ∀ b, S.ownBlock = some b → B ≤ b ∧ b < w.heap.size := fun b e => h.row.lt b e
  refine ⟨?_, ?_, hm.ne h.b, ?_, ?_⟩
  · rintro k (e | e | e)
    · have := h.hmk; omega
    · have := h.hbb; omega
    · exact (lo _ e).1
  · rintro k (e | e | e)
    · rw [e]; exact hm.lt
    · rw [e]; have := h.b; rw [Array.getElem?_eq_some_iff] at this; exact this.1
    · exact (lo _ e).2
  · intro e
    obtain ⟨cs', hc⟩ := own_type h.row e
    exact hm.ne hc rfl
  · intro e
    obtain ⟨cs', hc⟩ := own_type h.row e
    exact ne_type hc h.b (by decide) rfl

/-- The builder, where other blocks are written. -/
theorem BInv.aside {F F' : Nat → Prop} {w' : World} (h : BInv w B mk bb ns S) (hs : Step F w F' w') (hF : ∀ k, F k → ¬ BM mk bb S k) : BInv w' B mk bb ns S := by
  obtain ⟨h1, h2, h3, h4, h5⟩ := h.away
  have keep : ∀ k, BM mk bb S k → w'.heap[k]? = w.heap[k]? := fun k hk => hs.block k (h2 k hk) (fun hf => hF k hf hk)
  obtain ⟨n, hn, hm⟩ := h.map
  exact ⟨(keep bb (.inr (.inl rfl))).trans h.b, ownsRow_of_block h.row (fun g hg => keep g (.inr (.inr hg))), ⟨n, hn, hm.block (keep mk (.inl rfl))⟩, h.wf, h.hbb, h.hmk⟩
theorem BInv.below {w' : World} (h : BInv w B mk bb ns S) (hb : Below w.heap.size w w') : BInv w' B mk bb ns S :=
  h.aside (F := NoB) (F' := NoB) (Step.of_below hb NoB) (fun k hk => hk.elim)
end

theorem Wf.mem_tr {ns : List Br} (hw : Wf ns) {b : Br} (hb : b ∈ ns) : ns.idxOf b < ns.length ∧ tr ns (ns.idxOf b + 2) = .node b.v.toNat (tr ns b.l.toNat) (tr ns b.h.toNat) := by
  have hi := List.idxOf_lt_length_of_mem hb
  refine ⟨hi, ?_⟩
  obtain ⟨-, -, h3⟩ := hw.stands (n := ns.idxOf b + 2) (by omega)
  obtain ⟨x, hx, e, -⟩ := h3 (by omega)
  rw [show ns.idxOf b + 2 - 2 = ns.idxOf b by omega, List.getElem?_eq_getElem hi, List.getElem_idxOf hi] at hx
  cases hx
  exact e

theorem knownF_snoc {ns : List Br} {b : Br} (hb : b ∉ ns) (x : Br) : knownF (ns ++ [b]) x = if x = b then some ((ns.length : Int) + 2) else knownF ns x := by
  unfold knownF
  by_cases hx : x = b
  · subst hx
    rw [if_pos rfl, if_pos (by simp), List.idxOf_append, if_neg hb]; simp
  · rw [if_neg hx]
    by_cases hm : x ∈ ns
    · rw [if_pos (List.mem_append_left _ hm), if_pos hm, List.idxOf_append, if_pos hm]
    · rw [if_neg (by simp [hm, hx]), if_neg hm]

theorem step_append_at {P : Program} {w : World} {ops : Array Oper} {o : Oper} {a : Act} {K : Act → World → Prop} {Q : Exit → Act → World → Prop} {E : Prop} (hgd : o.guard = none) (s x : Operand) (t : TypeId)
    (ho : o.op = .call { callee := .builtin .append, args := #[s, x], argTypes := #[t, t] })
    (base : Nat) (e : TypeId) (i : TypeInfo) (z : Value) (size bytes : Nat) (ht : P.underlying t = some (.slice e)) (hi : P.info? e = some i) (hz : i.zero = some z)
    (hsize : i.size = size) (hby : i.bytes = bytes) (hzs : z.cells.size = size) (hsz : 0 < size)
    (v : Value) (n : Nat) (xs : List Value) (hs : a.eval s = v) (hown : w.ownsRow base e size v n xs)
    (ad : Addr) (m c : Nat) (news : List Value) (hx : a.eval x = .slice (some ad) m c) (hl : news.length = m * size) (hnews : ∀ j u, news[j]? = some u → w.cell? (ad.add j) = some u) (h1 : ∀ u ∈ news, u.oneCell' = true)
    (h63 : n + m ≤ maxLen) (hbytes : (n + m) * bytes ≤ 140737488355328) (hbase : base ≤ w.heap.size)
    (h : ∀ v' w', w'.ownsRow base e size v' (n + m) (xs ++ news) → w.grownBy w' v.ownBlock → (v'.ownBlock = v.ownBlock ∨ v'.ownBlock = some w.heap.size) → K (a.put o.dst v') w') : if Region.wanted o (yielded ops a.tmps) = true then Oper.wp P o a w K Q else E := by
  have hw : Region.wanted o (yielded ops a.tmps) = true := by simp [Region.wanted, hgd]
  rw [if_pos hw]
  obtain ⟨v', w', hrun, r1, r2, -, r3⟩ := run_append_own_at (P := P) w base t o.type e i z size bytes ht hi hz hsize hby hzs hsz v n xs hown ad m c news hl hnews h1 h63 hbytes hbase
  unfold Oper.wp
  simp [execOp, ho, resolve, invoke, builtin, hs, hx, hrun, Result.andThen]
  exact h v' w' r1 r2 r3

set_option maxRecDepth 100000 in
set_option maxHeartbeats 400000 in
/-- A branch that leads to one place both ways. -/
theorem branch_same (w : World) (p : Value) (v l : Int) :
    Calls Try.prog 99 #[p, .int .i64 v, .int .i64 l, .int .i64 l] w fun e w' => e = .returned (.int .i64 l) ∧ w = w' := by
  go_enter Try.func99, Try.ntmps99
  go_wp2_with (fail)
  go_ret
  exact ⟨rfl, rfl⟩

set_option maxRecDepth 100000 in
set_option maxHeartbeats 1000000 in
/-- A branch that the builder knows. -/
theorem branch_known (w : World) (B mk bb : Nat) (ns : List Br) (S : Value) (h : BInv w B mk bb ns S) (b : Br) (hb : b ∈ ns) (hbi : b.In) (hne : b.l ≠ b.h) :
    Calls Try.prog 99 #[.pointer (some ⟨bb, 0, none⟩), .int .i64 b.v, .int .i64 b.l, .int .i64 b.h] w fun e w' => e = .returned (.int .i64 ((ns.idxOf b : Int) + 2)) ∧ Below w.heap.size w w' := by
  obtain ⟨w1, bq, e1, hbq, hsz, h1, hb1⟩ := laid w (br3 b.v b.l b.h) 44
  have h' := h.below hb1
  obtain ⟨n, hn, hm⟩ := h'.map
  have hk : ∀ a, (Instr.lookup 82 (.map (some mk)) (.agg #[.int .i64 b.v, .int .i64 b.l, .int .i64 b.h]) true).run Try.prog (w1.drewN a) = .ok (.tuple #[.int .i64 ((ns.idxOf b : Int) + 2), .bool true]) (w1.drewN a) := by
    intro a
    have := (hm.step ((Step.refl NoB w1).drewN a) (fun h => h)).look_ok lawBr Try.underlying82 Try.underlying3 (zeroInt (w1.drewN a)) b (keyBr b hbi)
    rw [show knownF ns b = some ((ns.idxOf b : Int) + 2) by unfold knownF; rw [if_pos hb]] at this
    exact this
  have c1 : w1.cell? ⟨bb, 1, none⟩ = some (.map (some mk)) := by rw [cell_of_row w1 bb 1 _ _ _ h'.b]; rfl
  obtain ⟨y0, y1, y2⟩ := box3 h1
  have e0 : (b.l == b.h) = false := by simpa using hne
  have HB := Lib.hid hb1
  clear h h' hm h1 hb1 hne hb
  go_enter Try.func99, Try.ntmps99
  go_wp2_with (with_reducible refine wpList_store_last rfl 44 (.tmp 9) (.tmp 19) rfl (br3 0 0 0) (br3 b.v b.l b.h) rfl rfl sizebr rfl (br3_one _ _ _) ?_)
  go_quiet (fail)
  have B1 := Lib.hid (below_drewN HB.out nq)
  go_wp2_with (fail)
  go_ret
  exact ⟨rfl, by first | exact B1.out | (rw [← hbq]; exact B1.out)⟩

set_option maxRecDepth 100000 in
set_option maxHeartbeats 1000000 in
/-- A branch that is new. -/
theorem branch_fresh (w : World) (B mk bb : Nat) (ns : List Br) (S : Value) (h : BInv w B mk bb ns S) (b : Br) (hok : BrOk ns b) (hbi : b.In) (hlen : ns.length ≤ 1099511627776) :
    Calls Try.prog 99 #[.pointer (some ⟨bb, 0, none⟩), .int .i64 b.v, .int .i64 b.l, .int .i64 b.h] w fun e w' => e = .returned (.int .i64 ((ns.length : Int) + 2)) ∧ ∃ S', BInv w' B mk bb (ns ++ [b]) S' ∧ Step (BM mk bb S) w (BM mk bb S') w' := by
  obtain ⟨w1, bq, e1, hbq, hsz, h1, hb1⟩ := laid w (br3 b.v b.l b.h) 44
  have h' := h.below hb1
  obtain ⟨n, hn, hm⟩ := h'.map
  have hk : ∀ a, (Instr.lookup 82 (.map (some mk)) (.agg #[.int .i64 b.v, .int .i64 b.l, .int .i64 b.h]) true).run Try.prog (w1.drewN a) = .ok (.tuple #[.int .i64 0, .bool false]) (w1.drewN a) := by
    intro a
    have := (hm.step ((Step.refl NoB w1).drewN a) (fun h => h)).look_ok lawBr Try.underlying82 Try.underlying3 (zeroInt (w1.drewN a)) b (keyBr b hbi)
    rw [show knownF ns b = none by unfold knownF; rw [if_neg hok.fresh]] at this
    exact this
  have c1 : w1.cell? ⟨bb, 1, none⟩ = some (.map (some mk)) := by rw [cell_of_row w1 bb 1 _ _ _ h'.b]; rfl
  obtain ⟨y0, y1, y2⟩ := box3 h1
  have e0 : (b.l == b.h) = false := by simpa using hok.ne
  have HB := Lib.hid hb1; have HI := Lib.hid h'; have H1 := Lib.hid h1; have HOK := Lib.hid hok; have HBI := Lib.hid hbi; have HA := Lib.hid h.away.2.1; have HBQ := Lib.hid hbq; have HW := Lib.hid h
  obtain ⟨i0, hi0', hz0, hz1, hz2⟩ := info_parts infobr
  clear h h' hm h1 hb1 hok hn n
  go_enter Try.func99, Try.ntmps99
  go_wp2_with (with_reducible refine wpList_store_last rfl 44 (.tmp 9) (.tmp 19) rfl (br3 0 0 0) (br3 b.v b.l b.h) rfl rfl sizebr rfl (br3_one _ _ _) ?_)
  go_quiet (fail)
  clear hk c1
  obtain ⟨w2, hw2⟩ : ∃ w2, w1.drewN nq = w2 := ⟨_, rfl⟩
  have B12 : Below w1.heap.size w1 w2 := by rw [← hw2]; exact below_drewN (Below.refl _ _) nq
  have HI2 := Lib.hid (HI.out.below B12)
  have H2 := Lib.hid (heap_below B12 H1.out)
  have ST2 : Hid (Step (BM mk bb S) w (BM mk bb S) w2) := Step.of_below (HB.out.trans (B12.mono HB.out.size)) _
  have QB : Hid (¬ BM mk bb S bq) := fun hm => by have := HA.out bq hm; have := HBQ.out; omega
  rw [hw2]
  clear hw2 B12 y0 y1 y2 HI H1
  have SX : Hid (∀ w' : World, w'.heap[bq]? = w2.heap[bq]? → w'.cell? ⟨bq, 0, none⟩ = some (.int .i64 b.v) ∧ w'.cell? ⟨bq, 1, none⟩ = some (.int .i64 b.l) ∧ w'.cell? ⟨bq, 2, none⟩ = some (.int .i64 b.h)) := fun w' hb => box3 (hb.trans H2.out)
  obtain ⟨sa, sc, hS⟩ : ∃ sa sc, S = .slice sa ns.length sc := by obtain ⟨ao, cap, e, -⟩ := ownsRow_shape HI2.out.row; exact ⟨ao, cap, e⟩
  have c0 : w2.cell? ⟨bb, 0, none⟩ = some (.slice sa ns.length sc) := by rw [cell_of_row w2 bb 0 _ _ _ HI2.out.b, ← hS]; rfl
  have cf := frozen_box HI2.out.b 0
  have HS := Lib.hid hS
  clear hS
  go_wp2_with (fail)
  have QL : Hid (bq < w2.drew.heap.size) := by have := H2.out; rw [Array.getElem?_eq_some_iff] at this; exact this.1
  have RW : Hid (((w2.alloc (.cells (br3 b.v b.l b.h) 44)).drew).ownsRow B 44 3 (.slice sa ns.length sc) ns.length (bcells ns)) := by show World.ownsRow _ _ _ _ _ _ _; rw [← HS.out]; exact (HI2.out.row.alloc _)
  have NC : Hid (∀ j u, ([.int .i64 b.v, .int .i64 b.l, .int .i64 b.h] : List Value)[j]? = some u → ((w2.alloc (.cells (br3 b.v b.l b.h) 44)).drew).cell? ((⟨w2.heap.size, 0, none⟩ : Addr).add j) = some u) := by
    intro j u hu
    rw [Addr.add_lit]
    show (w2.alloc _).cell? _ = _
    rw [World.cell?_alloc_at _ _ _ _ rfl]
    simpa using hu
  have BL : Hid (B ≤ ((w2.alloc (.cells (br3 b.v b.l b.h) 44)).drew).heap.size) := by
    show B ≤ (w2.alloc _).heap.size
    have h1 := HI2.out.hbb
    have h2 := HI2.out.b
    rw [Array.getElem?_eq_some_iff] at h2
    have := h2.1
    simp; omega
  refine wp_region_held_drew (S := fun w' => w'.cell? ⟨bq, 0, none⟩ = some (.int .i64 b.v) ∧ w'.cell? ⟨bq, 1, none⟩ = some (.int .i64 b.l) ∧ w'.cell? ⟨bq, 2, none⟩ = some (.int .i64 b.h)) (by kernel_rfl) (SX.out _ rfl) (fun hS => ?_)
  refine wpAnyH_take (i := 0) (v := .pointer (some ⟨bb, 0, none⟩)) rfl (by kernel_rfl) (by kernel_rfl) (by kernel_rfl) (fun _ _ _ h => h) (Or.inl ⟨by rfl, ?_⟩) hS ?_
  · intro w hSw
    go_split_ands
    go_simp
  try simp only [Act.put, List.getElem_toArray, List.getElem_cons_zero, List.getElem_cons_succ, List.setIfInBounds_toArray, List.set_cons_zero, List.set_cons_succ]
  refine wpAnyH_take (i := 1) (v := .pointer (some ⟨bb, 0, none⟩)) rfl (by kernel_rfl) (by kernel_rfl) (by kernel_rfl) (fun _ _ _ h => h) (Or.inl ⟨by rfl, ?_⟩) hS ?_
  · intro w hSw
    go_split_ands
    go_simp
  try simp only [Act.put, List.getElem_toArray, List.getElem_cons_zero, List.getElem_cons_succ, List.setIfInBounds_toArray, List.set_cons_zero, List.set_cons_succ]
  refine wpAnyH_take (i := 2) (v := .pointer (some ⟨bb, 0, none⟩)) rfl (by kernel_rfl) (by kernel_rfl) (by kernel_rfl) (fun _ _ _ h => h) (Or.inl ⟨by rfl, ?_⟩) hS ?_
  · intro w hSw
    go_split_ands
    go_simp
  try simp only [Act.put, List.getElem_toArray, List.getElem_cons_zero, List.getElem_cons_succ, List.setIfInBounds_toArray, List.set_cons_zero, List.set_cons_succ]
  refine wpAnyH_take (i := 3) (v := .pointer (some ⟨bb, 0, none⟩)) rfl (by kernel_rfl) (by kernel_rfl) (by kernel_rfl) (fun _ _ _ h => h) (Or.inl ⟨by rfl, ?_⟩) hS ?_
  · intro w hSw
    go_split_ands
    go_simp
  try simp only [Act.put, List.getElem_toArray, List.getElem_cons_zero, List.getElem_cons_succ, List.setIfInBounds_toArray, List.set_cons_zero, List.set_cons_succ]
  refine wpAnyH_take (i := 5) (v := .agg #[.int .i64 b.v, .int .i64 b.l, .int .i64 b.h]) rfl (by kernel_rfl) (by kernel_rfl) (by kernel_rfl) (fun _ _ _ h => h) (Or.inl ⟨by rfl, ?_⟩) hS ?_
  · intro w hSw
    go_split_ands
    go_simp
  try simp only [Act.put, List.getElem_toArray, List.getElem_cons_zero, List.getElem_cons_succ, List.setIfInBounds_toArray, List.set_cons_zero, List.set_cons_succ]
  refine wpAnyH_ready (rs := [4, 6]) (by kernel_rfl) (by simp) ?_
  refine AllReadyH.cons rfl (fun K hK => ?_) (AllReadyH.cons rfl (fun K hK => ?_) AllReadyH.nil)
  try simp only [Act.put, List.getElem_toArray, List.getElem_cons_zero, List.getElem_cons_succ, List.setIfInBounds_toArray, List.set_cons_zero, List.set_cons_succ]
  go_simp
  refine hK.out _ _ (SX.out _ rfl) (fun hS => ?_)
  clear hK K
  try simp only [Act.put, List.getElem_toArray, List.getElem_cons_zero, List.getElem_cons_succ, List.setIfInBounds_toArray, List.set_cons_zero, List.set_cons_succ]
  refine wpAnyH_ready (rs := [6]) (by kernel_rfl) (by simp) ?_
  refine AllReadyH.cons rfl (fun K hK => ?_) AllReadyH.nil
  try simp only [Act.put, List.getElem_toArray, List.getElem_cons_zero, List.getElem_cons_succ, List.setIfInBounds_toArray, List.set_cons_zero, List.set_cons_succ]
  go_simp
  refine hK.out _ _ (SX.out _ (Below.heap_alloc _ _ bq QL.out)) (fun hS => ?_)
  clear hK K
  have c0' : (w2.alloc (.cells #[.int .i64 b.v, .int .i64 b.l, .int .i64 b.h] 44)).cell? ⟨bb, 0, none⟩ = _ := cell_alloc c0 _
  try simp only [Act.put, List.getElem_toArray, List.getElem_cons_zero, List.getElem_cons_succ, List.setIfInBounds_toArray, List.set_cons_zero, List.set_cons_succ]
  refine wpAnyH_ready (rs := [7]) (by kernel_rfl) (by simp) ?_
  refine AllReadyH.cons rfl (fun K hK => ?_) AllReadyH.nil
  try simp only [Act.put, List.getElem_toArray, List.getElem_cons_zero, List.getElem_cons_succ, List.setIfInBounds_toArray, List.set_cons_zero, List.set_cons_succ]
  refine step_append_at (a := ⟨_, []⟩) rfl (.tmp 35) (.tmp 37) 26 rfl B 44 i0 (.agg #[.int .i64 0, .int .i64 0, .int .i64 0]) 3 24 Try.underlying26 hi0' hz0 hz1 hz2 rfl (by decide) (.slice sa ns.length sc) ns.length (bcells ns) rfl RW.out ⟨w2.heap.size, 0, none⟩ 1 1 [.int .i64 b.v, .int .i64 b.l, .int .i64 b.h] rfl rfl NC.out (br3_one _ _ _) (by unfold maxLen; omega) (by omega) BL.out ?_
  intro v' w4 hown4 hg4 hat4
  obtain ⟨q, hq⟩ : ∃ q, ns.length + 1 = q := ⟨_, rfl⟩
  rw [hq] at hown4
  obtain ⟨va, vc, rfl⟩ : ∃ va vc, v' = .slice va q vc := by obtain ⟨ao, cap, e, -⟩ := ownsRow_shape hown4; exact ⟨ao, cap, e⟩
  rw [show Value.slice sa ns.length sc = S from HS.out.symm] at hg4 hat4
  have HOWN4 := Lib.hid hown4; have HG4 := Lib.hid hg4; have HAT4 := Lib.hid hat4; have HQ := Lib.hid hq
  have keep4 : ∀ k, k < w2.heap.size → S.ownBlock ≠ some k → w4.heap[k]? = w2.heap[k]? := fun k hk hne => (hg4.block k (by show k < (w2.alloc _).heap.size; simp; omega) (fun e => hne e.symm)).trans (Below.heap_alloc w2 _ k hk)
  have K4 := Lib.hid keep4
  have h4 := (keep4 bb (by have := HI2.out.b; rw [Array.getElem?_eq_some_iff] at this; exact this.1) HI2.out.away.2.2.2.2).trans HI2.out.b
  have H4 := Lib.hid h4
  have d0 : w4.cell? ⟨bb, 0, none⟩ = some S := by rw [cell_of_row w4 bb 0 _ _ _ h4]; rfl
  have d1 := frozen_box h4 0
  have SB4 : Hid (w4.heap[bq]? = w2.heap[bq]?) := keep4 bq QL.out (fun e => QB.out (.inr (.inr e)))
  have hne : bq ≠ bb := fun e => QB.out (.inr (.inl e))
  have SB5 : Hid ((w4.setCell ⟨bb, 0, none⟩ (.slice va q vc)).heap[bq]? = w2.heap[bq]?) := (heap_setCell_other w4 ⟨bb, 0, none⟩ bq _ hne).trans SB4.out
  clear hown4 hg4 hat4 hq keep4 h4 hne
  refine hK.out _ _ (SX.out _ SB4.out) (fun hS => ?_)
  clear hK K
  try simp only [Act.put, List.getElem_toArray, List.getElem_cons_zero, List.getElem_cons_succ, List.setIfInBounds_toArray, List.set_cons_zero, List.set_cons_succ]
  refine wpAnyH_take (i := 8) (v := .pointer (some ⟨bb, 0, none⟩)) rfl (by kernel_rfl) (by kernel_rfl) (by kernel_rfl) (fun _ _ _ h => h) (Or.inl ⟨by rfl, ?_⟩) hS ?_
  · intro w hSw
    go_split_ands
    go_simp
  try simp only [Act.put, List.getElem_toArray, List.getElem_cons_zero, List.getElem_cons_succ, List.setIfInBounds_toArray, List.set_cons_zero, List.set_cons_succ]
  refine wpAnyH_take (i := 9) (v := .pointer (some ⟨bb, 0, none⟩)) rfl (by kernel_rfl) (by kernel_rfl) (by kernel_rfl) (fun _ _ _ h => h) (Or.inl ⟨by rfl, ?_⟩) hS ?_
  · intro w hSw
    go_split_ands
    go_simp
  try simp only [Act.put, List.getElem_toArray, List.getElem_cons_zero, List.getElem_cons_succ, List.setIfInBounds_toArray, List.set_cons_zero, List.set_cons_succ]
  refine wpAnyH_ready (rs := [10]) (by kernel_rfl) (by simp) ?_
  refine AllReadyH.cons rfl (fun K hK => ?_) AllReadyH.nil
  try simp only [Act.put, List.getElem_toArray, List.getElem_cons_zero, List.getElem_cons_succ, List.setIfInBounds_toArray, List.set_cons_zero, List.set_cons_succ]
  go_simp
  refine hK.out _ _ (SX.out _ SB5.out) (fun hS => ?_)
  clear hK K
  refine wpAnyH_done (by kernel_rfl) ?_ _
  try simp only [Act.put, List.getElem_toArray, List.getElem_cons_zero, List.getElem_cons_succ, List.setIfInBounds_toArray, List.set_cons_zero, List.set_cons_succ]
  rotate_left
  try simp only [Act.put, List.getElem_toArray, List.getElem_cons_zero, List.getElem_cons_succ, List.setIfInBounds_toArray, List.set_cons_zero, List.set_cons_succ]
  go_simp
  refine hK.out _ _ (SX.out _ (Below.heap_alloc _ _ bq QL.out)) (fun hS => ?_)
  clear hK K
  have c0' : (w2.alloc (.cells #[.int .i64 b.v, .int .i64 b.l, .int .i64 b.h] 44)).cell? ⟨bb, 0, none⟩ = _ := cell_alloc c0 _
  try simp only [Act.put, List.getElem_toArray, List.getElem_cons_zero, List.getElem_cons_succ, List.setIfInBounds_toArray, List.set_cons_zero, List.set_cons_succ]
  refine wpAnyH_ready (rs := [4]) (by kernel_rfl) (by simp) ?_
  refine AllReadyH.cons rfl (fun K hK => ?_) AllReadyH.nil
  try simp only [Act.put, List.getElem_toArray, List.getElem_cons_zero, List.getElem_cons_succ, List.setIfInBounds_toArray, List.set_cons_zero, List.set_cons_succ]
  go_simp
  refine hK.out _ _ (SX.out _ (Below.heap_alloc _ _ bq QL.out)) (fun hS => ?_)
  clear hK K
  try simp only [Act.put, List.getElem_toArray, List.getElem_cons_zero, List.getElem_cons_succ, List.setIfInBounds_toArray, List.set_cons_zero, List.set_cons_succ]
  refine wpAnyH_ready (rs := [7]) (by kernel_rfl) (by simp) ?_
  refine AllReadyH.cons rfl (fun K hK => ?_) AllReadyH.nil
  try simp only [Act.put, List.getElem_toArray, List.getElem_cons_zero, List.getElem_cons_succ, List.setIfInBounds_toArray, List.set_cons_zero, List.set_cons_succ]
  refine step_append_at (a := ⟨_, []⟩) rfl (.tmp 35) (.tmp 37) 26 rfl B 44 i0 (.agg #[.int .i64 0, .int .i64 0, .int .i64 0]) 3 24 Try.underlying26 hi0' hz0 hz1 hz2 rfl (by decide) (.slice sa ns.length sc) ns.length (bcells ns) rfl RW.out ⟨w2.heap.size, 0, none⟩ 1 1 [.int .i64 b.v, .int .i64 b.l, .int .i64 b.h] rfl rfl NC.out (br3_one _ _ _) (by unfold maxLen; omega) (by omega) BL.out ?_
  intro v' w4 hown4 hg4 hat4
  obtain ⟨q, hq⟩ : ∃ q, ns.length + 1 = q := ⟨_, rfl⟩
  rw [hq] at hown4
  obtain ⟨va, vc, rfl⟩ : ∃ va vc, v' = .slice va q vc := by obtain ⟨ao, cap, e, -⟩ := ownsRow_shape hown4; exact ⟨ao, cap, e⟩
  rw [show Value.slice sa ns.length sc = S from HS.out.symm] at hg4 hat4
  have HOWN4 := Lib.hid hown4; have HG4 := Lib.hid hg4; have HAT4 := Lib.hid hat4; have HQ := Lib.hid hq
  have keep4 : ∀ k, k < w2.heap.size → S.ownBlock ≠ some k → w4.heap[k]? = w2.heap[k]? := fun k hk hne => (hg4.block k (by show k < (w2.alloc _).heap.size; simp; omega) (fun e => hne e.symm)).trans (Below.heap_alloc w2 _ k hk)
  have K4 := Lib.hid keep4
  have h4 := (keep4 bb (by have := HI2.out.b; rw [Array.getElem?_eq_some_iff] at this; exact this.1) HI2.out.away.2.2.2.2).trans HI2.out.b
  have H4 := Lib.hid h4
  have d0 : w4.cell? ⟨bb, 0, none⟩ = some S := by rw [cell_of_row w4 bb 0 _ _ _ h4]; rfl
  have d1 := frozen_box h4 0
  have SB4 : Hid (w4.heap[bq]? = w2.heap[bq]?) := keep4 bq QL.out (fun e => QB.out (.inr (.inr e)))
  have hne : bq ≠ bb := fun e => QB.out (.inr (.inl e))
  have SB5 : Hid ((w4.setCell ⟨bb, 0, none⟩ (.slice va q vc)).heap[bq]? = w2.heap[bq]?) := (heap_setCell_other w4 ⟨bb, 0, none⟩ bq _ hne).trans SB4.out
  clear hown4 hg4 hat4 hq keep4 h4 hne
  refine hK.out _ _ (SX.out _ SB4.out) (fun hS => ?_)
  clear hK K
  try simp only [Act.put, List.getElem_toArray, List.getElem_cons_zero, List.getElem_cons_succ, List.setIfInBounds_toArray, List.set_cons_zero, List.set_cons_succ]
  refine wpAnyH_take (i := 8) (v := .pointer (some ⟨bb, 0, none⟩)) rfl (by kernel_rfl) (by kernel_rfl) (by kernel_rfl) (fun _ _ _ h => h) (Or.inl ⟨by rfl, ?_⟩) hS ?_
  · intro w hSw
    go_split_ands
    go_simp
  try simp only [Act.put, List.getElem_toArray, List.getElem_cons_zero, List.getElem_cons_succ, List.setIfInBounds_toArray, List.set_cons_zero, List.set_cons_succ]
  refine wpAnyH_take (i := 9) (v := .pointer (some ⟨bb, 0, none⟩)) rfl (by kernel_rfl) (by kernel_rfl) (by kernel_rfl) (fun _ _ _ h => h) (Or.inl ⟨by rfl, ?_⟩) hS ?_
  · intro w hSw
    go_split_ands
    go_simp
  try simp only [Act.put, List.getElem_toArray, List.getElem_cons_zero, List.getElem_cons_succ, List.setIfInBounds_toArray, List.set_cons_zero, List.set_cons_succ]
  refine wpAnyH_ready (rs := [10]) (by kernel_rfl) (by simp) ?_
  refine AllReadyH.cons rfl (fun K hK => ?_) AllReadyH.nil
  try simp only [Act.put, List.getElem_toArray, List.getElem_cons_zero, List.getElem_cons_succ, List.setIfInBounds_toArray, List.set_cons_zero, List.set_cons_succ]
  go_simp
  refine hK.out _ _ (SX.out _ SB5.out) (fun hS => ?_)
  clear hK K
  refine wpAnyH_done (by kernel_rfl) ?_ _
  try simp only [Act.put, List.getElem_toArray, List.getElem_cons_zero, List.getElem_cons_succ, List.setIfInBounds_toArray, List.set_cons_zero, List.set_cons_succ]
  all_goals
    clear RW NC BL d0 d1 c0 cf
    obtain ⟨w5, hw5⟩ : ∃ w5, w4.setCell ⟨bb, 0, none⟩ (.slice va q vc) = w5 := ⟨_, rfl⟩
    simp only [hw5] at SB5 ⊢
    have h5 : w5.heap[bb]? = some (.cells #[.slice va q vc, .map (some mk)] 84 (0, 0)) := by rw [← hw5, heap_setCell_same w4 bb 0 _ _ _ H4.out]; rfl
    have d0 : w5.cell? ⟨bb, 0, none⟩ = some (.slice va q vc) := by rw [cell_of_row w5 bb 0 _ _ _ h5]; rfl
    have hq1 : q ≤ 1099511627779 := by have := HQ.out; omega
    have H5 := Lib.hid h5
    have K5 : Hid (∀ k, k ≠ bb → w5.heap[k]? = w4.heap[k]?) := fun k hk => by rw [← hw5]; exact heap_setCell_other w4 ⟨bb, 0, none⟩ k _ hk
    have W5 := Lib.hid hw5
    clear h5 hw5
    go_wp2_with (fail)
    obtain ⟨n, hn, hmap⟩ := HI2.out.map
    have hmap5 : IntMap Try.prog 44 3 w5.drew mk n brVal (knownF ns) := hmap.block ((K5.out mk HI2.out.away.2.2.1).trans (K4.out mk hmap.lt HI2.out.away.2.2.2.1))
    obtain ⟨w6, hrun, hmap6, hg6, hsz6⟩ := hmap5.store lawBr Try.underlying82 Try.underlying3 (by unfold maxLen; omega) (brVal_inj) b (keyBr b HBI.out) ((q : Int) + 1) (I64.wf ⟨by omega, by omega⟩)
    simp only [brVal] at hrun
    have lt5 : ∀ (g : Nat) (o : Obj), w5.heap[g]? = some o → g < w5.heap.size := fun g o hg => by rw [Array.getElem?_eq_some_iff] at hg; exact hg.1
    have hb6 : w6.heap[bb]? = w5.heap[bb]? := hg6.block bb (lt5 _ _ H5.out) (fun e => HI2.out.away.2.2.1 (by cases e; rfl))
    have hq6 : w6.heap[bq]? = w5.heap[bq]? := hg6.block bq (lt5 _ _ (SB5.out.trans H2.out)) (fun e => QB.out (.inl (by cases e; rfl)))
    have SX8 : Hid (∀ w' : World, w'.heap[bq]? = w5.heap[bq]? → w'.heap[bb]? = w5.heap[bb]? → w'.cell? ⟨bq, 0, none⟩ = some (.int .i64 b.v) ∧ w'.cell? ⟨bq, 1, none⟩ = some (.int .i64 b.l) ∧ w'.cell? ⟨bq, 2, none⟩ = some (.int .i64 b.h) ∧ w'.cell? ⟨bb, 1, none⟩ = some (.map (some mk))) := fun w' h1 h2 => by
      obtain ⟨a1, a2, a3⟩ := SX.out w' (h1.trans SB5.out)
      refine ⟨a1, a2, a3, ?_⟩
      rw [cell_of_row w' bb 1 _ _ _ (h2.trans H5.out)]; rfl
    have HN := Lib.hid hn; have HMAP := Lib.hid hmap; have HMAP6 := Lib.hid hmap6; have HG6 := Lib.hid hg6; have HB6 := Lib.hid hb6; have HQ6 := Lib.hid hq6; have HSZ6 := Lib.hid hsz6
    clear hn hmap hmap5 hmap6 hg6 hb6 hq6 lt5 d0 SX
    clear hS
    refine wp_region_held_drew (S := fun w' => w'.cell? ⟨bq, 0, none⟩ = some (.int .i64 b.v) ∧ w'.cell? ⟨bq, 1, none⟩ = some (.int .i64 b.l) ∧ w'.cell? ⟨bq, 2, none⟩ = some (.int .i64 b.h) ∧ w'.cell? ⟨bb, 1, none⟩ = some (.map (some mk))) (by kernel_rfl) (SX8.out _ rfl rfl) (fun hS => ?_)
    refine wpAnyH_take (i := 0) (v := .pointer (some ⟨bb, 0, none⟩)) rfl (by kernel_rfl) (by kernel_rfl) (by kernel_rfl) (fun _ _ _ h => h) (Or.inl ⟨by rfl, ?_⟩) hS ?_
    · intro w hSw
      go_split_ands
      go_simp
    try simp only [Act.put, List.getElem_toArray, List.getElem_cons_zero, List.getElem_cons_succ, List.setIfInBounds_toArray, List.set_cons_zero, List.set_cons_succ]
    refine wpAnyH_take (i := 1) (v := .pointer (some ⟨bb, 0, none⟩)) rfl (by kernel_rfl) (by kernel_rfl) (by kernel_rfl) (fun _ _ _ h => h) (Or.inl ⟨by rfl, ?_⟩) hS ?_
    · intro w hSw
      go_split_ands
      go_simp
    try simp only [Act.put, List.getElem_toArray, List.getElem_cons_zero, List.getElem_cons_succ, List.setIfInBounds_toArray, List.set_cons_zero, List.set_cons_succ]
    refine wpAnyH_take (i := 2) (v := .pointer (some ⟨bb, 1, none⟩)) rfl (by kernel_rfl) (by kernel_rfl) (by kernel_rfl) (fun _ _ _ h => h) (Or.inl ⟨by rfl, ?_⟩) hS ?_
    · intro w hSw
      go_split_ands
      go_simp
    try simp only [Act.put, List.getElem_toArray, List.getElem_cons_zero, List.getElem_cons_succ, List.setIfInBounds_toArray, List.set_cons_zero, List.set_cons_succ]
    refine wpAnyH_take (i := 3) (v := .map (some mk)) rfl (by kernel_rfl) (by kernel_rfl) (by kernel_rfl) (fun _ _ _ h => h) (Or.inl ⟨by rfl, ?_⟩) hS ?_
    · intro w hSw
      go_split_ands
      go_simp
    try simp only [Act.put, List.getElem_toArray, List.getElem_cons_zero, List.getElem_cons_succ, List.setIfInBounds_toArray, List.set_cons_zero, List.set_cons_succ]
    refine wpAnyH_take (i := 4) (v := .agg #[.int .i64 b.v, .int .i64 b.l, .int .i64 b.h]) rfl (by kernel_rfl) (by kernel_rfl) (by kernel_rfl) (fun _ _ _ h => h) (Or.inl ⟨by rfl, ?_⟩) hS ?_
    · intro w hSw
      go_split_ands
      go_simp
    try simp only [Act.put, List.getElem_toArray, List.getElem_cons_zero, List.getElem_cons_succ, List.setIfInBounds_toArray, List.set_cons_zero, List.set_cons_succ]
    refine wpAnyH_take (i := 5) (v := .int .i64 ((q : Int) + 1)) rfl (by kernel_rfl) (by kernel_rfl) (by kernel_rfl) (fun _ _ _ h => h) (Or.inl ⟨by rfl, ?_⟩) hS ?_
    · intro w hSw
      go_split_ands
      go_simp
    try simp only [Act.put, List.getElem_toArray, List.getElem_cons_zero, List.getElem_cons_succ, List.setIfInBounds_toArray, List.set_cons_zero, List.set_cons_succ]
    refine wpAnyH_ready (rs := [6]) (by kernel_rfl) (by simp) ?_
    refine AllReadyH.cons rfl (fun K hK => ?_) AllReadyH.nil
    try simp only [Act.put, List.getElem_toArray, List.getElem_cons_zero, List.getElem_cons_succ, List.setIfInBounds_toArray, List.set_cons_zero, List.set_cons_succ]
    go_simp
    refine hK.out _ _ (SX8.out _ HQ6.out HB6.out) (fun hS => ?_)
    clear hK K
    refine wpAnyH_done (by kernel_rfl) ?_ _
    try simp only [Act.put, List.getElem_toArray, List.getElem_cons_zero, List.getElem_cons_succ, List.setIfInBounds_toArray, List.set_cons_zero, List.set_cons_succ]
    go_wp2_with (fail)
    go_ret
    obtain ⟨a1, a2, a3, a4, a5⟩ := HI2.out.away
    have hbB := HI2.out.hbb
    have hat := HAT4.out
    have hsz : ((w2.alloc (.cells (br3 b.v b.l b.h) 44)).drew).heap.size = w2.heap.size + 1 := by show (w2.alloc _).heap.size = _; simp
    rw [hsz] at hat
    have ST : Step (BM mk bb S) w2 (BM mk bb (.slice va q vc)) w6 := by
      have t1 : Step (BM mk bb S) w2 (BM mk bb S) w4 := ((Step.refl (BM mk bb S) w2).alloc _).drew.grown HG4.out (fun k e => .inl (.inr (.inr e)))
      have t2 : Step (BM mk bb S) w2 (BM mk bb S) w5 := by rw [← W5.out]; exact t1.setCell (p := ⟨bb, 0, none⟩) (.inl (.inr (.inl rfl))) _
      have t3 := t2.drew.grown HG6.out (fun k e => .inl (.inl (by cases e; rfl)))
      refine t3.to (fun _ h => h) (fun k hk => ?_)
      rcases hk with hk | hk | hk
      · exact .inl (.inl hk)
      · exact .inl (.inr (.inl hk))
      · rcases hat with e | e
        · exact .inl (.inr (.inr (e ▸ hk)))
        · rw [e] at hk; cases hk; exact .inr (by simp)
    have hgt : ∀ g, (Value.slice va q vc).ownBlock = some g → w6.heap[g]? = w4.heap[g]? := by
      intro g hg
      obtain ⟨cs, hcs⟩ := own_type HOWN4.out hg
      have hgb : g ≠ bb := fun e => by
        rw [e] at hcs
        exact ne_type hcs H4.out (by decide) rfl
      have hgm : g ≠ mk := fun e => by
        have := (HMAP.out.block (K4.out mk HMAP.out.lt a4)).ne hcs
        exact this e.symm
      have hlt : g < w5.heap.size := by
        have h1 : g < w4.heap.size := by rw [Array.getElem?_eq_some_iff] at hcs; exact hcs.1
        rw [← W5.out]; simpa [World.setCell] using h1
      exact (HG6.out.block g hlt (fun e => hgm (by cases e; rfl))).trans (K5.out g hgb)
    have hq := HQ.out
    refine ⟨by rw [show ((ns.length : Int) + 2) = (q : Int) + 1 by omega]; rfl, .slice va q vc, ⟨HB6.out.trans H5.out, ?_, ⟨n + 1, ?_, ?_⟩, .snoc HI2.out.wf HOK.out, hbB, HI2.out.hmk⟩, ST2.out.trans ST⟩
    · have hr := ownsRow_of_block (w' := w6) HOWN4.out hgt
      rw [bcells_append, List.length_append, show ns.length + [b].length = q by simpa using hq]
      exact hr
    · have := HN.out; simp; omega
    · refine HMAP6.out.congr (fun y => ?_)
      rw [knownF_snoc HOK.out.fresh]
      by_cases hy : y = b
      · rw [if_pos hy, if_pos hy]; congr 1; omega
      · rw [if_neg hy, if_neg hy]

theorem BInv.ns_in {w : World} {B mk bb : Nat} {ns : List Br} {S : Value} (h : BInv w B mk bb ns S) (hlen : ns.length ≤ 1099511627776) {b : Br} (hok : BrOk ns b) : b.In :=
  ⟨⟨by have := hok.v0; omega, by have := hok.v1; omega⟩, ⟨by have := hok.l0; omega, by have := hok.l1; omega⟩, ⟨by have := hok.h0; omega, by have := hok.h1; omega⟩⟩

theorem Wf.lv {ns : List Br} (hw : Wf ns) {n : Nat} (hn : n < ns.length + 2) : level ns n = (tr ns n).lv := (hw.stands hn).2.1.symm

/-- A branch: its tree; the builder keeps what it had. -/
theorem branch_any (w : World) (B mk bb : Nat) (ns : List Br) (S : Value) (h : BInv w B mk bb ns S) (v l r : Nat) (hv : v ≤ 63) (hl : l ≤ ns.length + 1) (hr : r ≤ ns.length + 1) (hlv : l ≠ r → v < (tr ns l).lv ∧ v < (tr ns r).lv) (hlen : ns.length ≤ 1099511627776) :
    Calls Try.prog 99 #[.pointer (some ⟨bb, 0, none⟩), .int .i64 (v : Int), .int .i64 (l : Int), .int .i64 (r : Int)] w fun e w' => ∃ (m : Nat) (x : List Br) (S' : Value), e = .returned (.int .i64 (m : Int)) ∧ BInv w' B mk bb (ns ++ x) S' ∧ Step (BM mk bb S) w (BM mk bb S') w' ∧ x.length ≤ 1 ∧ m < (ns ++ x).length + 2 ∧ tr (ns ++ x) m = (if l = r then tr ns l else .node v (tr ns l) (tr ns r)) := by
  have mono : ∀ {f a} {R R' : Ending → World → Prop}, Calls Try.prog f a w R → (∀ e w', R e w' → R' e w') → Calls Try.prog f a w R' := fun h hp cs => by
    obtain ⟨e, w', fr, h1, h2⟩ := h cs
    exact ⟨e, w', fr, hp _ _ h1, h2⟩
  by_cases hlr : l = r
  · subst hlr
    refine mono (branch_same w _ v l) ?_
    rintro e w' ⟨rfl, rfl⟩
    exact ⟨l, [], S, rfl, by simpa using h, Step.refl _ _, by simp, by simp; omega, by simp⟩
  · have hne : (l : Int) ≠ r := by omega
    obtain ⟨v1, v2⟩ := hlv hlr
    by_cases hb : (⟨v, l, r⟩ : Br) ∈ ns
    · refine mono (branch_known w B mk bb ns S h ⟨v, l, r⟩ hb ⟨⟨by simp only; omega, by simp only; omega⟩, ⟨by simp only; omega, by simp only; omega⟩, ⟨by simp only; omega, by simp only; omega⟩⟩ hne) ?_
      rintro e w' ⟨rfl, hbel⟩
      obtain ⟨h1, h2⟩ := h.wf.mem_tr hb
      exact ⟨ns.idxOf ⟨v, l, r⟩ + 2, [], S, by simp, by simpa using h.below hbel, Step.of_below hbel _, by simp, by simp; omega, by simpa [hlr] using h2⟩
    · have hok : BrOk ns ⟨v, l, r⟩ := ⟨by simp, by simp; omega, by simp, by simp, by simp; omega, by simp; omega, hne, hb, by simp only [h.wf.lv (n := l) (by omega)]; omega, by simp only [h.wf.lv (n := r) (by omega)]; omega⟩
      refine mono (branch_fresh w B mk bb ns S h ⟨v, l, r⟩ hok (h.ns_in hlen hok) hlen) ?_
      rintro e w' ⟨rfl, S', hI, hs⟩
      refine ⟨ns.length + 2, [⟨v, l, r⟩], S', by simp, hI, hs, by simp, by simp, ?_⟩
      rw [tr_new]; simp [hlr]

end Go.Proofs.Ytohmibmakelclaa
