/-
  The reference: the application of an operation to two numbers.
  Condition: the product of the tables' lengths is at most 2^40.
-/
import Derived.Test.YtohmibmakelclaaPkM
import Derived.Test.YtohmibmakelclaaPkH
namespace Go.Proofs.Ytohmibmakelclaa
set_option linter.unusedVariables false
set_option linter.unusedSimpArgs false
open Go.RowKit

theorem info3i : (Try.prog.info? 114).map (fun i => (i.zero, i.size, i.bytes)) = some (some (.agg #[.int .i64 0, .int .i64 0, .int .i64 0]), 3, 24) := by kernel_rfl

theorem run_min2 {P : Program} {w : World} (ts : Array TypeId) (t : TypeId) (m n V : Int) (hV : min m n = V) : (Builtin.min_ ts t #[.int .i64 m, .int .i64 n]).run P w = .ok (.int .i64 V) w := by
  rw [run_min_int2, show (if n < m then n else m) = V by rw [← hV]; split <;> omega]

theorem step_min2 {P : Program} {w : World} {ops : Array Oper} {o : Oper} {a : Act} {K : Act → World → Prop} {Q : Exit → Act → World → Prop} {E : Prop} (hgd : o.guard = none) (s x : Operand) (t : TypeId)
    (ho : o.op = .call { callee := .builtin .min, args := #[s, x], argTypes := #[t, t] })
    (m n V : Int) (h1 : a.eval s = .int .i64 m) (h2 : a.eval x = .int .i64 n) (hV : min m n = V) (h : K (a.put o.dst (.int .i64 V)) w) : if Region.wanted o (yielded ops a.tmps) = true then Oper.wp P o a w K Q else E := by
  have hw : Region.wanted o (yielded ops a.tmps) = true := by simp [Region.wanted, hgd]
  rw [if_pos hw]
  have hrun := run_min2 (P := P) (w := w) #[t, t] o.type m n V hV
  unfold Oper.wp
  simp [execOp, ho, resolve, invoke, builtin, h1, h2, hrun, Result.andThen]
  exact h

/-- What a call at a place hands back. -/
def RatPost (w0 : World) (B k : Nat) (Da Db : Dg) (Sa Sb : Value) (p a b : Nat) (ns : List Br) (S : Value) (ss : List Spot) (SS : Value) (w w' : World) (e : Ending) : Prop :=
  ∃ (r : Nat) (x : List Br) (S' : Value) (y : List Spot) (SS' : Value), e = .returned (.int .i64 (r : Int)) ∧ AInv w0 w' B k Da Db Sa Sb p (ns ++ x) S' (ss ++ y) SS' ∧ Step (AM p S SS) w (AM p S' SS') w' ∧ r < (ns ++ x).length + 2 ∧ Good2 k (tr Da.nodes a) (tr Db.nodes b) (tr (ns ++ x) r) ∧ (∀ q ∈ y, q.1 + q.2.1 ≤ (a : Int) + b) ∧ (ns ++ x).length ≤ (ss ++ y).length

/-- What a call at a place does. -/
def RatDoes (w0 : World) (B k : Nat) (Da Db : Dg) (Sa Sb : Value) (p a b : Nat) : Prop :=
  ∀ (w : World) (ns : List Br) (S : Value) (ss : List Spot) (SS : Value), AInv w0 w B k Da Db Sa Sb p ns S ss SS → ns.length ≤ ss.length → Calls Try.prog 119 #[.pointer (some ⟨p, 0, none⟩), .int .i64 (a : Int), .int .i64 (b : Int)] w fun e w' => RatPost w0 B k Da Db Sa Sb p a b ns S ss SS w w' e

section
variable {w0 : World} {B k : Nat} {Da Db : Dg} {Sa Sb : Value} {p : Nat}

set_option maxRecDepth 100000 in
set_option maxHeartbeats 400000 in
theorem rat_const (hk : k < 3) (x y : Bool) : RatDoes w0 B k Da Db Sa Sb p (bit x) (bit y) := by
  intro w ns S ss SS h hsn
  have H := Lib.hid h
  have C := Lib.hid (constant_bits w p k h.cells.2.2.2.2.1 hk x y)
  have hx : (bit x : Int) < 2 := by cases x <;> simp [bit]
  have hy : (bit y : Int) < 2 := by cases y <;> simp [bit]
  clear h
  go_enter Try.func119, Try.ntmps119
  go_wp2_with (fail)
  refine C.out.mono ?_
  rintro e wx ⟨rfl, rfl⟩
  go_wp2_with (fail)
  go_ret
  refine ⟨bit (opOf k x y), [], S, [], SS, rfl, by simpa using H.out, Step.refl _ _, by simp [bit]; split <;> omega, ?_, by simp, by simpa using hsn⟩
  rw [tr_bit, tr_bit, tr_bit]
  exact Good.leaf _ x y false

set_option maxRecDepth 100000 in
set_option maxHeartbeats 4000000 in
theorem rat_new (a b a0 b0 a1 b1 : Nat) (v : Nat) (hab : 2 ≤ (a : Int) ∨ ((a : Int) < 2 ∧ 2 ≤ (b : Int))) (hwa : Wf Da.nodes) (hwb : Wf Db.nodes) (ha : a < Da.nodes.length + 2) (hb : b < Db.nodes.length + 2) (hN : (Da.nodes.length + 2) * (Db.nodes.length + 2) ≤ 1099511627776) (hV : min (level Da.nodes (a : Int)) (level Db.nodes (b : Int)) = (v : Int)) (hV1 : v < 64)
    (ea : sides Da.nodes (a : Int) (v : Int) = ((a0 : Int), (a1 : Int))) (eb : sides Db.nodes (b : Int) (v : Int) = ((b0 : Int), (b1 : Int))) (hd0 : a0 + b0 < a + b) (hd1 : a1 + b1 < a + b)
    (L : RatDoes w0 B k Da Db Sa Sb p a0 b0) (H : RatDoes w0 B k Da Db Sa Sb p a1 b1)
    (hG : ∀ (ns : List Br) (l h : Nat), Wf ns → l < ns.length + 2 → h < ns.length + 2 → Good2 k (tr Da.nodes a0) (tr Db.nodes b0) (tr ns l) → Good2 k (tr Da.nodes a1) (tr Db.nodes b1) (tr ns h) → (v < (tr ns l).lv ∧ v < (tr ns h).lv) ∧ Good2 k (tr Da.nodes a) (tr Db.nodes b) (if l = h then tr ns l else .node v (tr ns l) (tr ns h))) :
    RatDoes w0 B k Da Db Sa Sb p a b := by
  intro w ns S ss SS h hsn
  obtain ⟨aa, ca, hSa⟩ := h.da.shape
  obtain rfl : Sa = .slice aa Da.nodes.length ca := by simpa using hSa
  obtain ⟨ab, cb, hSb⟩ := h.db.shape
  obtain rfl : Sb = .slice ab Db.nodes.length cb := by simpa using hSb
  obtain ⟨sa, sc, hS⟩ : ∃ sa sc, S = .slice sa ns.length sc := by obtain ⟨ao, cap, e, -⟩ := ownsRow_shape h.row; exact ⟨ao, cap, e⟩
  obtain ⟨qa, qc, hSS⟩ : ∃ qa qc, SS = .slice qa ss.length qc := by obtain ⟨ao, cap, e, -⟩ := ownsRow_shape h.sow; exact ⟨ao, cap, e⟩
  have hssl : ss.length ≤ 1099511627776 := Nat.le_trans h.len hN
  have hssI : (ss.length : Int) ≤ 1099511627776 := by omega
  have HI := Lib.hid h; have HL := Lib.hid L; have HH := Lib.hid H; have HG := Lib.hid hG; have HWA := Lib.hid hwa; have HWB := Lib.hid hwb; have HV := Lib.hid hV; have HEA := Lib.hid ea; have HEB := Lib.hid eb; have HSN := Lib.hid hsn; have HN := Lib.hid hN
  subst hS
  subst hSS
  have NO : Hid (∀ j : Nat, j < 0 → ∀ q, ss[j]? = some q → ¬ (q.1 = (a : Int) ∧ q.2.1 = (b : Int))) := fun j hj => by omega
  obtain ⟨c0, c1, c2, c3, c4, c5, c6⟩ := h.cells
  clear h L H hG hwa hwb hV ea eb hSa hSb hsn c4 c5 hN
  rcases hab with hab | ⟨hab, hab'⟩
  all_goals
    go_enter Try.func119, Try.ntmps119
    go_wp2_with (fail)
    go_loopw [7] (fun i wr => wr = w ∧ ∃ j : Nat, j ≤ ss.length ∧ i = .int .i64 j ∧ Hid (∀ k : Nat, k < j → ∀ q, ss[k]? = some q → ¬ (q.1 = (a : Int) ∧ q.2.1 = (b : Int)))) (fun i _ => ss.length - (intOf i).toNat)
    case atStart => exact ⟨rfl, 0, Nat.zero_le _, rfl, NO⟩
    case round =>
      clear NO
      obtain ⟨rfl, j, hj, rfl, NJ⟩ := hrel
      by_cases hlt : j < ss.length
      · obtain ⟨g, off, hqa, d0, d1, d2⟩ := own_get3 HI.out.sow j hlt
        subst hqa
        obtain ⟨q, hq⟩ : ∃ q, ss[j] = q := ⟨_, rfl⟩
        obtain ⟨a', b', r', eq, o1, o2, o3, o4⟩ := HI.out.ok _ (List.getElem_mem hlt)
        rw [hq] at d0 d1 d2 eq
        subst eq
        have HQ : Hid (ss[j]? = some ((a' : Int), (b' : Int), (r' : Int))) := by show _ = _; rw [List.getElem?_eq_getElem hlt, hq]
        have hj0 : (0 : Int) ≤ (j : Int) := by omega
        have hj1 : (j : Int) < (ss.length : Int) := by omega
        clear hq
        by_cases hm : a' = a ∧ b' = b
        · obtain ⟨rfl, rfl⟩ := hm
          have HO := Lib.hid o4
          clear o4
          go_wp2_with (fail)
          go_ret
          exact ⟨r', [], _, [], _, by rfl, by simpa using HI.out, Step.refl _ _, by simpa using o3, by simpa using HO.out, by simp, by simpa using HSN.out⟩
        · have NJ' : Hid (∀ k : Nat, k < j + 1 → ∀ q, ss[k]? = some q → ¬ (q.1 = (a : Int) ∧ q.2.1 = (b : Int))) := by
            intro k hk q hq
            by_cases e : k = j
            · subst e
              rw [HQ.out] at hq
              cases hq
              simp only
              rintro ⟨h1, h2⟩
              exact hm ⟨by omega, by omega⟩
            · exact NJ.out k (by omega) q hq
          have hcase : (a' : Int) ≠ (a : Int) ∨ ((a' : Int) = (a : Int) ∧ (b' : Int) ≠ (b : Int)) := by omega
          clear hm o4
          rcases hcase with h1 | ⟨h0, h1⟩
          all_goals
            go_wp2_with (fail)
            go_roundw
            case rel => exact ⟨trivial, j + 1, by omega, by go_num, NJ'⟩
            case measure => simp [intOf]; omega
      · obtain rfl : j = ss.length := by omega
        have NEW : Hid (∀ q ∈ ss, ¬ (q.1 = (a : Int) ∧ q.2.1 = (b : Int))) := by
          intro q hq
          obtain ⟨i, hi, e⟩ := List.mem_iff_getElem.1 hq
          exact NJ.out i hi q (by rw [List.getElem?_eq_getElem hi, e])
        have HID : Hid (AInv w0 wr.drew B k Da Db (.slice aa Da.nodes.length ca) (.slice ab Db.nodes.length cb) p ns (.slice sa ns.length sc) ss (.slice qa ss.length qc)) := HI.out.below (Below.refl _ _).drew
        clear NJ
        go_wp2_with (fail)
        clear c0 c1 c2 c3 c6
        refine wp_region_held_drew (S := fun w' => w'.cell? ⟨p, 0, none⟩ = some (.slice aa Da.nodes.length ca) ∧ w'.cell? ⟨p, 1, none⟩ = some (.int .i64 Da.root) ∧ w'.cell? ⟨p, 2, none⟩ = some (.slice ab Db.nodes.length cb) ∧ w'.cell? ⟨p, 3, none⟩ = some (.int .i64 Db.root)) (by kernel_rfl) (⟨(HID.out.cells).1, (HID.out.cells).2.1, (HID.out.cells).2.2.1, (HID.out.cells).2.2.2.1⟩) (fun hS => ?_)
        refine wpAnyH_take (i := 0) (v := (.pointer (some ⟨p, 0, none⟩))) rfl (by kernel_rfl) (by kernel_rfl) (by kernel_rfl) (fun _ _ _ h => h) (Or.inl ⟨by rfl, ?_⟩) hS ?_
        · intro w hSw
          go_split_ands
          go_simp
        try simp only [Act.put, List.getElem_toArray, List.getElem_cons_zero, List.getElem_cons_succ, List.setIfInBounds_toArray, List.set_cons_zero, List.set_cons_succ]
        refine wpAnyH_take (i := 1) (v := (.pointer (some ⟨p, 0, none⟩))) rfl (by kernel_rfl) (by kernel_rfl) (by kernel_rfl) (fun _ _ _ h => h) (Or.inl ⟨by rfl, ?_⟩) hS ?_
        · intro w hSw
          go_split_ands
          go_simp
        try simp only [Act.put, List.getElem_toArray, List.getElem_cons_zero, List.getElem_cons_succ, List.setIfInBounds_toArray, List.set_cons_zero, List.set_cons_succ]
        refine wpAnyH_take (i := 2) (v := (.pointer (some ⟨p, 0, none⟩))) rfl (by kernel_rfl) (by kernel_rfl) (by kernel_rfl) (fun _ _ _ h => h) (Or.inl ⟨by rfl, ?_⟩) hS ?_
        · intro w hSw
          go_split_ands
          go_simp
        try simp only [Act.put, List.getElem_toArray, List.getElem_cons_zero, List.getElem_cons_succ, List.setIfInBounds_toArray, List.set_cons_zero, List.set_cons_succ]
        refine wpAnyH_take (i := 3) (v := (.agg #[.slice aa Da.nodes.length ca, .int .i64 Da.root])) rfl (by kernel_rfl) (by kernel_rfl) (by kernel_rfl) (fun _ _ _ h => h) (Or.inl ⟨by rfl, ?_⟩) hS ?_
        · intro w hSw
          go_split_ands
          go_simp
        try simp only [Act.put, List.getElem_toArray, List.getElem_cons_zero, List.getElem_cons_succ, List.setIfInBounds_toArray, List.set_cons_zero, List.set_cons_succ]
        refine wpAnyH_take (i := 4) (v := .int .i64 (a : Int)) rfl (by kernel_rfl) (by kernel_rfl) (by kernel_rfl) (fun _ _ _ h => h) (Or.inl ⟨by rfl, ?_⟩) hS ?_
        · intro w hSw
          go_split_ands
          go_simp
        try simp only [Act.put, List.getElem_toArray, List.getElem_cons_zero, List.getElem_cons_succ, List.setIfInBounds_toArray, List.set_cons_zero, List.set_cons_succ]
        refine wpAnyH_take (i := 6) (v := (.pointer (some ⟨p, 0, none⟩))) rfl (by kernel_rfl) (by kernel_rfl) (by kernel_rfl) (fun _ _ _ h => h) (Or.inl ⟨by rfl, ?_⟩) hS ?_
        · intro w hSw
          go_split_ands
          go_simp
        try simp only [Act.put, List.getElem_toArray, List.getElem_cons_zero, List.getElem_cons_succ, List.setIfInBounds_toArray, List.set_cons_zero, List.set_cons_succ]
        refine wpAnyH_take (i := 7) (v := (.pointer (some ⟨p, 0, none⟩))) rfl (by kernel_rfl) (by kernel_rfl) (by kernel_rfl) (fun _ _ _ h => h) (Or.inl ⟨by rfl, ?_⟩) hS ?_
        · intro w hSw
          go_split_ands
          go_simp
        try simp only [Act.put, List.getElem_toArray, List.getElem_cons_zero, List.getElem_cons_succ, List.setIfInBounds_toArray, List.set_cons_zero, List.set_cons_succ]
        refine wpAnyH_take (i := 8) (v := (.pointer (some ⟨p, 2, none⟩))) rfl (by kernel_rfl) (by kernel_rfl) (by kernel_rfl) (fun _ _ _ h => h) (Or.inl ⟨by rfl, ?_⟩) hS ?_
        · intro w hSw
          go_split_ands
          go_simp
        try simp only [Act.put, List.getElem_toArray, List.getElem_cons_zero, List.getElem_cons_succ, List.setIfInBounds_toArray, List.set_cons_zero, List.set_cons_succ]
        refine wpAnyH_take (i := 9) (v := (.agg #[.slice ab Db.nodes.length cb, .int .i64 Db.root])) rfl (by kernel_rfl) (by kernel_rfl) (by kernel_rfl) (fun _ _ _ h => h) (Or.inl ⟨by rfl, ?_⟩) hS ?_
        · intro w hSw
          go_split_ands
          go_simp
        try simp only [Act.put, List.getElem_toArray, List.getElem_cons_zero, List.getElem_cons_succ, List.setIfInBounds_toArray, List.set_cons_zero, List.set_cons_succ]
        refine wpAnyH_take (i := 10) (v := .int .i64 (b : Int)) rfl (by kernel_rfl) (by kernel_rfl) (by kernel_rfl) (fun _ _ _ h => h) (Or.inl ⟨by rfl, ?_⟩) hS ?_
        · intro w hSw
          go_split_ands
          go_simp
        try simp only [Act.put, List.getElem_toArray, List.getElem_cons_zero, List.getElem_cons_succ, List.setIfInBounds_toArray, List.set_cons_zero, List.set_cons_succ]
        refine wpAnyH_ready (rs := [5]) (by kernel_rfl) (by simp) ?_
        refine AllReadyH.cons rfl (fun K hK => ?_) AllReadyH.nil
        try simp only [Act.put, List.getElem_toArray, List.getElem_cons_zero, List.getElem_cons_succ, List.setIfInBounds_toArray, List.set_cons_zero, List.set_cons_succ]
        go_simp
        refine (rlevel_any wr.drew _ Da (HID.out.da.wide (fun k h => h.elim)) (a : Int) (by omega)).mono ?_
        rintro e w2 ⟨rfl, hb2⟩
        have HI2 := Lib.hid (HID.out.below hb2)
        have HB2 : Hid (Below wr.heap.size wr w2) := (Below.refl _ wr).drew.trans hb2
        clear hb2
        refine hK.out _ _ (⟨(HI2.out.cells).1, (HI2.out.cells).2.1, (HI2.out.cells).2.2.1, (HI2.out.cells).2.2.2.1⟩) (fun hS => ?_)
        clear hK K
        try simp only [Act.put, List.getElem_toArray, List.getElem_cons_zero, List.getElem_cons_succ, List.setIfInBounds_toArray, List.set_cons_zero, List.set_cons_succ]
        refine wpAnyH_ready (rs := [11]) (by kernel_rfl) (by simp) ?_
        refine AllReadyH.cons rfl (fun K hK => ?_) AllReadyH.nil
        try simp only [Act.put, List.getElem_toArray, List.getElem_cons_zero, List.getElem_cons_succ, List.setIfInBounds_toArray, List.set_cons_zero, List.set_cons_succ]
        go_simp
        refine (rlevel_any w2 _ Db (HI2.out.db.wide (fun k h => h.elim)) (b : Int) (by omega)).mono ?_
        rintro e w3 ⟨rfl, hb3⟩
        have HI3 := Lib.hid (HI2.out.below hb3)
        have HB3 : Hid (Below wr.heap.size wr w3) := HB2.out.trans (hb3.mono HB2.out.size)
        clear hb3
        refine hK.out _ _ (⟨(HI3.out.cells).1, (HI3.out.cells).2.1, (HI3.out.cells).2.2.1, (HI3.out.cells).2.2.2.1⟩) (fun hS => ?_)
        clear hK K
        try simp only [Act.put, List.getElem_toArray, List.getElem_cons_zero, List.getElem_cons_succ, List.setIfInBounds_toArray, List.set_cons_zero, List.set_cons_succ]
        refine wpAnyH_ready (rs := [12]) (by kernel_rfl) (by simp) ?_
        refine AllReadyH.cons rfl (fun K hK => ?_) AllReadyH.nil
        try simp only [Act.put, List.getElem_toArray, List.getElem_cons_zero, List.getElem_cons_succ, List.setIfInBounds_toArray, List.set_cons_zero, List.set_cons_succ]
        refine step_min2 (a := ⟨_, []⟩) rfl (.tmp 71) (.tmp 77) 3 rfl _ _ (v : Int) rfl rfl HV.out ?_
        refine hK.out _ _ (⟨(HI3.out.cells).1, (HI3.out.cells).2.1, (HI3.out.cells).2.2.1, (HI3.out.cells).2.2.2.1⟩) (fun hS => ?_)
        clear hK K
        try simp only [Act.put, List.getElem_toArray, List.getElem_cons_zero, List.getElem_cons_succ, List.setIfInBounds_toArray, List.set_cons_zero, List.set_cons_succ]
        refine wpAnyH_ready (rs := [13]) (by kernel_rfl) (by simp) ?_
        refine AllReadyH.cons rfl (fun K hK => ?_) AllReadyH.nil
        try simp only [Act.put, List.getElem_toArray, List.getElem_cons_zero, List.getElem_cons_succ, List.setIfInBounds_toArray, List.set_cons_zero, List.set_cons_succ]
        go_simp
        refine hK.out _ _ (⟨(HI3.out.cells).1, (HI3.out.cells).2.1, (HI3.out.cells).2.2.1, (HI3.out.cells).2.2.2.1⟩) (fun hS => ?_)
        clear hK K
        try simp only [Act.put, List.getElem_toArray, List.getElem_cons_zero, List.getElem_cons_succ, List.setIfInBounds_toArray, List.set_cons_zero, List.set_cons_succ]
        refine wpAnyH_done (by kernel_rfl) ?_ _
        try simp only [Act.put, List.getElem_toArray, List.getElem_cons_zero, List.getElem_cons_succ, List.setIfInBounds_toArray, List.set_cons_zero, List.set_cons_succ]
        clear hS HID HI2 HB2
        obtain ⟨c0, c1, c2, c3, -, -, -⟩ := HI3.out.cells
        go_wp2_with (fail)
        refine (rsides_any w3 _ Da (HI3.out.da.wide (fun k h => h.elim)) (a : Int) (v : Int) (by omega) (by omega)).mono ?_
        rintro e w4 ⟨rfl, hb4⟩
        rw [HEA.out]
        have HI4 := Lib.hid (HI3.out.below hb4)
        have HB4 : Hid (Below wr.heap.size wr w4) := HB3.out.trans (hb4.mono HB3.out.size)
        clear hb4 HI3 HB3 c0 c1 c2 c3
        obtain ⟨c0, c1, c2, c3, -, -, -⟩ := HI4.out.cells
        go_wp2_with (fail)
        refine (rsides_any w4 _ Db (HI4.out.db.wide (fun k h => h.elim)) (b : Int) (v : Int) (by omega) (by omega)).mono ?_
        rintro e w5 ⟨rfl, hb5⟩
        rw [HEB.out]
        have HI5 := Lib.hid (HI4.out.below hb5)
        have HB5 : Hid (Below wr.heap.size wr w5) := HB4.out.trans (hb5.mono HB4.out.size)
        clear hb5 HI4 HB4 c0 c1 c2 c3
        go_wp2_with (fail)
        refine (HL.out w5 ns _ ss _ HI5.out HSN.out).mono ?_
        rintro e w6 ⟨l, x1, S1, y1, SS1, rfl, hI6, hs6, hl6, hg6, hy6, hz6⟩
        have HI6 := Lib.hid hI6; have HS6 := Lib.hid hs6; have HL6 := Lib.hid hl6; have HG6 := Lib.hid hg6; have HY6 := Lib.hid hy6; have HZ6 := Lib.hid hz6
        clear hI6 hs6 hl6 hg6 hy6 hz6
        go_wp2_with (fail)
        refine (HH.out w6 (ns ++ x1) _ (ss ++ y1) _ HI6.out HZ6.out).mono ?_
        rintro e w7 ⟨r, x2, S2, y2, SS2, rfl, hI7, hs7, hl7, hg7, hy7, hz7⟩
        obtain ⟨ns2, hns2⟩ : ∃ ns2, ns ++ x1 ++ x2 = ns2 := ⟨_, rfl⟩
        obtain ⟨ss2, hss2⟩ : ∃ ss2, ss ++ y1 ++ y2 = ss2 := ⟨_, rfl⟩
        have hG := HG.out (ns ++ x1 ++ x2) l r hI7.wf (by have := HL6.out; rw [List.length_append]; omega) hl7 (by rw [tr_append x2 (ns ++ x1) l HL6.out]; exact HG6.out) hg7
        have hl2 : l < (ns ++ x1 ++ x2).length + 2 := by have := HL6.out; rw [List.length_append]; omega
        have hy2 : ∀ q ∈ ss2, ¬ (q.1 = (a : Int) ∧ q.2.1 = (b : Int)) := by
          intro q hq
          rw [← hss2] at hq
          rcases List.mem_append.1 hq with hq | hq
          · rcases List.mem_append.1 hq with hq | hq
            · exact NEW.out q hq
            · have := HY6.out q hq; rintro ⟨h1, h2⟩; omega
          · have := hy7 q hq; rintro ⟨h1, h2⟩; omega
        rw [hns2] at hI7 hl7 hG hl2
        rw [hss2] at hI7
        rw [hns2, hss2] at hz7
        obtain ⟨sa2, sc2, hS2⟩ : ∃ sa sc, S2 = .slice sa ns2.length sc := by obtain ⟨ao, cap, e, -⟩ := ownsRow_shape hI7.row; exact ⟨ao, cap, e⟩
        obtain ⟨qa2, qc2, hSS2⟩ : ∃ qa qc, SS2 = .slice qa ss2.length qc := by obtain ⟨ao, cap, e, -⟩ := ownsRow_shape hI7.sow; exact ⟨ao, cap, e⟩
        have STa : Hid (Step (AM p (.slice sa ns.length sc) (.slice qa ss.length qc)) wr (AM p S2 SS2) w7) := (((Step.of_below HB5.out _).trans HS6.out).trans hs7)
        have HI7 := Lib.hid hI7; have HLL := Lib.hid hl2; have HRR := Lib.hid hl7; have HGG := Lib.hid hG; have HYY := Lib.hid hy2; have HZ7 := Lib.hid hz7; have HNS := Lib.hid hns2; have HSS := Lib.hid hss2; have HY7 := Lib.hid hy7
        have hss2l : ss2.length ≤ 1099511627776 := Nat.le_trans hI7.len HN.out
        have hns2l : ns2.length ≤ 1099511627776 := Nat.le_trans hz7 hss2l
        have hss2I : (ss2.length : Int) ≤ 1099511627776 := by omega
        clear hs7 hg7 hy7 hz7 hG hl2 hl7 hy2 hI7 hns2 hss2
        obtain ⟨c0, c1, c2, c3, c4, c5, c6⟩ := HI7.out.cells
        rw [hS2] at c5
        rw [hSS2] at c6
        have fz := frozen_box HI7.out.st 5
        clear c0 c1 c2 c3 c4
        go_wp2_with (fail)
        have UN := unique_any w7 B S2 ns2 HI7.out.row HI7.out.wf v l r (by omega) (by have := HLL.out; omega) (by have := HRR.out; omega) (fun _ => HGG.out.1) hns2l (by have := (HI7.out.away.2.2.2 p (.inl rfl)).1; have := (HI7.out.away.2.2.2 p (.inl rfl)).2; omega)
        rw [hS2] at UN
        refine UN.mono ?_
        rintro e w8 ⟨m, x3, S3, rfl, hrow3, hwf3, hst8, hx3, hm3, htr3⟩
        obtain ⟨sa3, sc3, hS3⟩ : ∃ sa sc, S3 = .slice sa (ns2 ++ x3).length sc := by obtain ⟨ao, cap, e, -⟩ := ownsRow_shape hrow3; exact ⟨ao, cap, e⟩
        obtain ⟨n3, hn3⟩ : ∃ n3, (ns2 ++ x3).length = n3 := ⟨_, rfl⟩
        rw [hn3] at hS3
        have lt7 : ∀ (g : Nat) (o : Obj), w7.heap[g]? = some o → g < w7.heap.size := fun g o hg => by rw [Array.getElem?_eq_some_iff] at hg; exact hg.1
        have aw := HI7.out.away
        have hp8 := (hst8.block p (lt7 _ _ HI7.out.st) (by unfold RM; rw [← hS2]; exact aw.1)).trans HI7.out.st
        have hss8 : w8.ownsRow B 114 3 SS2 ss2.length (tcells ss2) := ownsRow_of_block HI7.out.sow (fun g hg => hst8.block g (HI7.out.sow.lt g hg).2 (by unfold RM; rw [← hS2]; exact fun e => aw.2.2.1 g e hg))
        have HP8 := Lib.hid hp8; have HSS8 := Lib.hid hss8; have HROW3 := Lib.hid hrow3; have HWF3 := Lib.hid hwf3; have HST8 := Lib.hid hst8; have HX3 := Lib.hid hx3; have HM3 := Lib.hid hm3; have HTR3 := Lib.hid htr3; have HN3 := Lib.hid hn3
        have hx3' := hx3
        have hn3' : n3 ≤ 1099511627777 := by rw [← hn3, List.length_append]; omega
        obtain ⟨y5, hy5⟩ : ∃ y, w8.cell? ⟨p, 5, none⟩ = some y := ⟨S2, by rw [cell_of_row w8 p 5 _ _ _ hp8]; rfl⟩
        have f5 := frozen_box hp8 5
        obtain ⟨w9, e9⟩ : ∃ w9, w8.setCell ⟨p, 5, none⟩ (.slice sa3 n3 sc3) = w9 := ⟨_, rfl⟩
        have hp9 : w9.heap[p]? = some (.cells #[.slice aa Da.nodes.length ca, .int .i64 Da.root, .slice ab Db.nodes.length cb, .int .i64 Db.root, .int .i64 (k : Int), .slice sa3 n3 sc3, SS2] 140 (0, 0)) := by rw [← e9, heap_setCell_same w8 p 5 _ _ _ hp8]; rfl
        have k9 : ∀ g, g ≠ p → w9.heap[g]? = w8.heap[g]? := fun g hg => by rw [← e9]; exact heap_setCell_other w8 ⟨p, 5, none⟩ g _ hg
        have d6 : w9.cell? ⟨p, 6, none⟩ = some (.slice qa2 ss2.length qc2) := by rw [cell_of_row w9 p 6 _ _ _ hp9, ← hSS2]; rfl
        have hss9 : w9.ownsRow B 114 3 SS2 ss2.length (tcells ss2) := ownsRow_of_block hss8 (fun g hg => k9 g (fun e => aw.2.1 (e ▸ hg)))
        have R9 : Hid ((w9.alloc (.cells (tri (a : Int) (b : Int) (m : Int)) 114)).ownsRow B 114 3 (.slice qa2 ss2.length qc2) ss2.length (tcells ss2)) := by show World.ownsRow _ _ _ _ _ _ _; rw [← hSS2]; exact hss9.alloc _
        have N9 : Hid (∀ j u, ([.int .i64 (a : Int), .int .i64 (b : Int), .int .i64 (m : Int)] : List Value)[j]? = some u → (w9.alloc (.cells (tri (a : Int) (b : Int) (m : Int)) 114)).cell? ((⟨w9.heap.size, 0, none⟩ : Addr).add j) = some u) := by
          intro j u hu
          rw [Addr.add_lit, World.cell?_alloc_at _ _ _ _ rfl]
          simpa [tri] using hu
        have HB9 : Hid (B ≤ w9.heap.size) := by
          have h1 := (HI7.out.away.2.2.2 p (.inl rfl)).1
          have h2 := hp9
          rw [Array.getElem?_eq_some_iff] at h2
          have := h2.1
          show _ ≤ _
          omega
        have HP9 := Lib.hid hp9; have K9 := Lib.hid k9; have HE9 := Lib.hid e9; have HS2 := Lib.hid hS2; have HSS2 := Lib.hid hSS2; have HS3 := Lib.hid hS3
        obtain ⟨i0, hi0', hz0, hz1, hz2⟩ := info_parts info3i
        clear hp8 hss8 hrow3 hwf3 hst8 hx3 hm3 htr3 hn3 hp9 k9 hss9 aw lt7 UN c5 c6 fz hS2 hSS2
        subst hS3
        go_wp2_with (at_builtin; refine wpList_append_own_at _ rfl (.tmp 127) (.tmp 132) 138 rfl B 114 i0 (.agg #[.int .i64 0, .int .i64 0, .int .i64 0]) 3 24 Try.underlying138 hi0' hz0 hz1 hz2 rfl (by decide) (.slice qa2 ss2.length qc2) ss2.length (tcells ss2) rfl R9.out ⟨w9.heap.size, 0, none⟩ 1 1 [.int .i64 (a : Int), .int .i64 (b : Int), .int .i64 (m : Int)] rfl rfl N9.out (br3_one _ _ _) (by unfold maxLen; omega) (by omega) (by have := HB9.out; simp; omega) ?_)
        intro v' w10 hown hg10 _ hat10
        obtain ⟨q, hq⟩ : ∃ q, ss2.length + 1 = q := ⟨_, rfl⟩
        rw [hq] at hown
        obtain ⟨va, vc, hv'⟩ : ∃ va vc, v' = .slice va q vc := by obtain ⟨ao, cap, e, -⟩ := ownsRow_shape hown; exact ⟨ao, cap, e⟩
        rw [show Value.slice qa2 ss2.length qc2 = SS2 from HSS2.out.symm] at hg10 hat10
        subst hv'
        have aw := HI7.out.away
        have keep10 : ∀ g, g < w9.heap.size → SS2.ownBlock ≠ some g → w10.heap[g]? = w9.heap[g]? := fun g hg hne => (hg10.block g (by simp; omega) (fun e => hne e.symm)).trans (Below.heap_alloc w9 _ g hg)
        have hp10 := (keep10 p (by have := HP9.out; rw [Array.getElem?_eq_some_iff] at this; exact this.1) aw.2.1).trans HP9.out
        obtain ⟨y6, hy6⟩ : ∃ y, w10.cell? ⟨p, 6, none⟩ = some y := ⟨SS2, by rw [cell_of_row w10 p 6 _ _ _ hp10]; rfl⟩
        have f6 := frozen_box hp10 6
        obtain ⟨w11, e11⟩ : ∃ w11, w10.setCell ⟨p, 6, none⟩ (.slice va q vc) = w11 := ⟨_, rfl⟩
        have hp11 : w11.heap[p]? = some (.cells #[.slice aa Da.nodes.length ca, .int .i64 Da.root, .slice ab Db.nodes.length cb, .int .i64 Db.root, .int .i64 (k : Int), .slice sa3 n3 sc3, .slice va q vc] 140 (0, 0)) := by rw [← e11, heap_setCell_same w10 p 6 _ _ _ hp10]; rfl
        have k11 : ∀ g, g ≠ p → w11.heap[g]? = w10.heap[g]? := fun g hg => by rw [← e11]; exact heap_setCell_other w10 ⟨p, 6, none⟩ g _ hg
        have hst8 : Step (RM S2) w7 (RM (.slice sa3 n3 sc3)) w8 := by rw [HS2.out]; exact HST8.out
        have STb : Step (AM p S2 SS2) w7 (AM p (.slice sa3 n3 sc3) (.slice va q vc)) w11 := by
          have t1 : Step (AM p S2 SS2) w7 (AM p (.slice sa3 n3 sc3) SS2) w8 := hst8.to (fun k hk => .inr (.inl hk)) (fun k hk => by
            rcases hk with hk | hk | hk
            · exact .inl (.inl hk)
            · rcases hst8.grow k hk with h | h
              · exact .inl (.inr (.inl h))
              · exact .inr h
            · exact .inl (.inr (.inr hk)))
          have t2 : Step (AM p S2 SS2) w7 (AM p (.slice sa3 n3 sc3) SS2) w9 := by rw [← HE9.out]; exact t1.setCell (p := ⟨p, 5, none⟩) (.inl (.inl rfl)) _
          have t4 := (t2.alloc (.cells #[.int .i64 (a : Int), .int .i64 (b : Int), .int .i64 (m : Int)] 114)).grown hg10 (fun k e => .inl (.inr (.inr e)))
          have t5 : Step (AM p S2 SS2) w7 (AM p (.slice sa3 n3 sc3) SS2) w11 := by rw [← e11]; exact t4.setCell (p := ⟨p, 6, none⟩) (.inl (.inl rfl)) _
          refine t5.to (fun _ h => h) (fun k hk => ?_)
          rcases hk with hk | hk | hk
          · exact .inl (.inl hk)
          · exact t5.grow k (.inr (.inl hk))
          · rcases hat10 with e | e
            · exact .inl (.inr (.inr (e ▸ hk)))
            · rw [e] at hk; cases hk; exact .inr (by have := t2.size; omega)
        have hkeep : ∀ g, g ≠ p → g < w9.heap.size → SS2.ownBlock ≠ some g → w11.heap[g]? = w8.heap[g]? := fun g h1 h2 h3 => ((k11 g h1).trans (keep10 g h2 h3)).trans (K9.out g h1)
        have hz98 : w9.heap.size = w8.heap.size := by rw [← HE9.out]; simp [World.setCell]
        have hgood : Good2 k (tr Da.nodes a) (tr Db.nodes b) (tr (ns2 ++ x3) m) := by rw [HTR3.out]; exact HGG.out.2
        have INV : Hid (AInv w0 w11 B k Da Db (.slice aa Da.nodes.length ca) (.slice ab Db.nodes.length cb) p (ns2 ++ x3) (.slice sa3 n3 sc3) (ss2 ++ [((a : Int), (b : Int), (m : Int))]) (.slice va q vc)) := by
          have hBs : B ≤ w7.heap.size := by have := (aw.2.2.2 p (.inl rfl)).1; have := (aw.2.2.2 p (.inl rfl)).2; omega
          have hsw := STb.wide (M := fun k => B ≤ k) (fun k hk => (aw.2.2.2 k hk).1)
          refine ⟨hp11, HI7.out.da.step hsw, HI7.out.db.step hsw, ?_, ?_, HWF3.out, ?_, ?_, HI7.out.bel.trans (STb.belowB hBs (fun k hk => (aw.2.2.2 k hk).1)), HI7.out.hp⟩
          · refine ownsRow_of_block HROW3.out (fun g hg => ?_)
            obtain ⟨cs, hc⟩ := own_type HROW3.out hg
            refine hkeep g (ne_type hc HP8.out (by decide)) (by rw [hz98]; rw [Array.getElem?_eq_some_iff] at hc; exact hc.1) (fun e => ?_)
            obtain ⟨cs', hc'⟩ := own_type HSS8.out e
            exact ne_type hc hc' (by decide) rfl
          · have : w11.ownsRow B 114 3 (.slice va q vc) q (tcells ss2 ++ [.int .i64 (a : Int), .int .i64 (b : Int), .int .i64 (m : Int)]) := ownsRow_of_block hown (fun g hg => by
              obtain ⟨cs, hc⟩ := own_type hown hg
              exact k11 g (ne_type hc hp10 (by decide)))
            rw [tcells_append, List.length_append, show ss2.length + [((a : Int), (b : Int), (m : Int))].length = q from hq]
            exact this
          · intro z hz
            rcases List.mem_append.1 hz with hz | hz
            · obtain ⟨a', b', r', e, h1, h2, h3, h4⟩ := HI7.out.ok z hz
              exact ⟨a', b', r', e, h1, h2, by rw [List.length_append]; omega, by rw [tr_append x3 ns2 r' h3]; exact h4⟩
            · simp only [List.mem_singleton] at hz
              exact ⟨a, b, m, hz, ha, hb, HM3.out, hgood⟩
          · rw [List.map_append, List.nodup_append]
            refine ⟨HI7.out.nd, by simp, fun z hz y hy => ?_⟩
            simp only [List.map_cons, List.map_nil, List.mem_singleton] at hy
            subst hy
            rintro rfl
            obtain ⟨z', hz', e⟩ := List.mem_map.1 hz
            exact HYY.out z' hz' ⟨congrArg Prod.fst e, congrArg Prod.snd e⟩
        have HST := Lib.hid (STa.out.trans STb); have HGD := Lib.hid hgood
        clear hown hg10 hat10 keep10 hp10 hp11 k11 STb hkeep hz98 hgood aw hst8 hq R9 N9
        go_wp2_with (fail)
        go_ret
        refine ⟨m, x1 ++ x2 ++ x3, .slice sa3 n3 sc3, y1 ++ y2 ++ [((a : Int), (b : Int), (m : Int))], .slice va q vc, by rfl, ?_, HST.out, ?_, ?_, ?_, ?_⟩
        · rw [show ns ++ (x1 ++ x2 ++ x3) = ns2 ++ x3 by rw [← HNS.out]; simp, show ss ++ (y1 ++ y2 ++ [((a : Int), (b : Int), (m : Int))]) = ss2 ++ [((a : Int), (b : Int), (m : Int))] by rw [← HSS.out]; simp]
          exact INV.out
        · rw [show ns ++ (x1 ++ x2 ++ x3) = ns2 ++ x3 by rw [← HNS.out]; simp]; exact HM3.out
        · rw [show ns ++ (x1 ++ x2 ++ x3) = ns2 ++ x3 by rw [← HNS.out]; simp]; exact HGD.out
        · intro z hz
          rcases List.mem_append.1 hz with hz | hz
          · rcases List.mem_append.1 hz with hz | hz
            · have := HY6.out z hz; omega
            · have := HY7.out z hz; omega
          · simp only [List.mem_singleton] at hz
            subst hz
            exact Int.le_refl _
        · rw [show ns ++ (x1 ++ x2 ++ x3) = ns2 ++ x3 by rw [← HNS.out]; simp, show ss ++ (y1 ++ y2 ++ [((a : Int), (b : Int), (m : Int))]) = ss2 ++ [((a : Int), (b : Int), (m : Int))] by rw [← HSS.out]; simp]
          rw [List.length_append, List.length_append]
          have := HX3.out; have := HZ7.out
          simp only [List.length_singleton]; omega
end

end Go.Proofs.Ytohmibmakelclaa
