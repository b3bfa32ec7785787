/-
  The reference: level, sides, Constant, Var.
  No condition.
-/
import Derived.Test.YtohmibmakelclaaPkI
import Derived.Test.YtohmibmakelclaaPkD
import Derived.Test.YtohmibmakelclaaPkE
namespace Go.Proofs.Ytohmibmakelclaa
set_option linter.unusedVariables false
set_option linter.unusedSimpArgs false
open Go.RowKit

set_option maxHeartbeats 400000 in
theorem rlevel_small (w : World) (v : Value) (D : Dg) (h : DgAt w NoB v D) (x : Int) (hx : x < 2) :
    Calls Try.prog 120 #[v, .int .i64 x] w fun e w' => e = .returned (.int .i64 64) ∧ Below w.heap.size w w' := by
  obtain ⟨a, c, rfl⟩ := h.shape
  obtain ⟨w0, bx, hw0q, hbx, hsz, hB, hb0⟩ := laid w #[.slice a D.nodes.length c, .int .i64 D.root] 28
  have B0 := Lib.hid hb0; have BX := Lib.hid hbx
  clear h hB hb0 hsz
  go_enter Try.func120, Try.ntmps120
  go_wp2_with (fail)
  go_ret
  exact ⟨rfl, by first | exact B0.out | (rw [← BX.out]; exact B0.out)⟩

set_option maxHeartbeats 400000 in
theorem rlevel_node (w : World) (v : Value) (D : Dg) (h : DgAt w NoB v D) (i : Nat) (hi : i < D.nodes.length) :
    Calls Try.prog 120 #[v, .int .i64 ((i : Int) + 2)] w fun e w' => e = .returned (.int .i64 D.nodes[i].v) ∧ Below w.heap.size w w' := by
  obtain ⟨a, c, rfl⟩ := h.shape
  obtain ⟨w0, bx, hw0q, hbx, hsz, hB, hb0⟩ := laid w #[.slice a D.nodes.length c, .int .i64 D.root] 28
  have HB := Lib.hid (h.brs.step (Step.of_below hb0 NoB))
  obtain ⟨x0, x1⟩ := box2 hB
  have hc := h.brs.len
  have B0 := Lib.hid hb0; have BX := Lib.hid hbx
  have hl : D.nodes.length ≤ 9223372036854775807 := by have := hc.1; have := hc.2.1; unfold maxLen at *; omega
  clear h hB hb0 hc hsz
  obtain ⟨b, off, rfl, -, -, c0, c1, c2⟩ := HB.out.get i hi
  have hi0 : (0 : Int) ≤ (i : Int) := by omega
  have hi1 : (i : Int) < (D.nodes.length : Int) := by omega
  go_enter Try.func120, Try.ntmps120
  go_wp2_with (fail)
  go_ret
  exact ⟨rfl, by first | exact B0.out | (rw [← BX.out]; exact B0.out)⟩

theorem rlevel_any (w : World) (v : Value) (D : Dg) (h : DgAt w NoB v D) (x : Int) (hx : x < D.nodes.length + 2) :
    Calls Try.prog 120 #[v, .int .i64 x] w fun e w' => e = .returned (.int .i64 (level D.nodes x)) ∧ Below w.heap.size w w' := by
  by_cases h2 : x < 2
  · have e : level D.nodes x = 64 := by unfold level; rw [if_pos h2]
    rw [e]; exact rlevel_small w v D h x h2
  · obtain ⟨i, rfl⟩ : ∃ i : Nat, x = (i : Int) + 2 := ⟨(x - 2).toNat, by omega⟩
    rw [level_at _ _ (by omega)]
    exact rlevel_node w v D h i (by omega)

set_option maxHeartbeats 400000 in
theorem rsides_other (w : World) (u : Value) (D : Dg) (h : DgAt w NoB u D) (x v : Int) (hx : x < D.nodes.length + 2) (hv : level D.nodes x ≠ v) :
    Calls Try.prog 129 #[u, .int .i64 x, .int .i64 v] w fun e w' => e = .returned (.tuple #[.int .i64 x, .int .i64 x]) ∧ Below w.heap.size w w' := by
  obtain ⟨a, c, rfl⟩ := h.shape
  obtain ⟨w0, bx, hw0q, hbx, hsz, hB, hb0⟩ := laid w #[.slice a D.nodes.length c, .int .i64 D.root] 28
  have HH : Hid (DgAt w0 NoB (.agg #[.slice a D.nodes.length c, .int .i64 D.root]) D) := h.below hb0
  obtain ⟨x0, x1⟩ := box2 hB
  have B0 := Lib.hid hb0; have BX := Lib.hid hbx
  have e1 : (level D.nodes x != v) = true := by simpa using hv
  clear h hB hb0 hsz hv
  go_enter Try.func129, Try.ntmps129
  go_wp2_with (fail)
  refine (rlevel_any w0 _ D HH.out x hx).mono ?_
  rintro e w1 ⟨rfl, hb1⟩
  have B1 := Lib.hid (B0.out.trans (hb1.mono B0.out.size))
  clear hb1
  go_wp2_with (fail)
  go_ret2
  exact ⟨rfl, by first | exact B1.out | (rw [← BX.out]; exact B1.out)⟩

set_option maxHeartbeats 400000 in
theorem rsides_node (w : World) (u : Value) (D : Dg) (h : DgAt w NoB u D) (i : Nat) (hi : i < D.nodes.length) :
    Calls Try.prog 129 #[u, .int .i64 ((i : Int) + 2), .int .i64 D.nodes[i].v] w fun e w' => e = .returned (.tuple #[.int .i64 D.nodes[i].l, .int .i64 D.nodes[i].h]) ∧ Below w.heap.size w w' := by
  obtain ⟨a, c, rfl⟩ := h.shape
  obtain ⟨w0, bx, hw0q, hbx, hsz, hB, hb0⟩ := laid w #[.slice a D.nodes.length c, .int .i64 D.root] 28
  have HH : Hid (DgAt w0 NoB (.agg #[.slice a D.nodes.length c, .int .i64 D.root]) D) := h.below hb0
  obtain ⟨x0, x1⟩ := box2 hB
  have B0 := Lib.hid hb0; have BX := Lib.hid hbx; have HB := Lib.hid hB
  have hc := h.brs.len
  have hl : D.nodes.length ≤ 9223372036854775807 := by have := hc.1; have := hc.2.1; unfold maxLen at *; omega
  clear h hB hb0 hsz hc
  have hi0 : (0 : Int) ≤ (i : Int) := by omega
  have hi1 : (i : Int) < (D.nodes.length : Int) := by omega
  go_enter Try.func129, Try.ntmps129
  go_wp2_with (fail)
  refine (rlevel_node w0 _ D HH.out i hi).mono ?_
  rintro e w1 ⟨rfl, hb1⟩
  have B1 := Lib.hid (B0.out.trans (hb1.mono B0.out.size))
  obtain ⟨y0, y1⟩ := box2 (heap_below hb1 HB.out)
  obtain ⟨b, off, rfl, -, -, c0, c1, c2⟩ := (HH.out.brs.step (Step.of_below hb1 NoB)).get i hi
  clear hb1 x0 x1
  go_wp2_with (fail)
  go_quiet (fail)
  have B2 := Lib.hid (below_drewN B1.out nq)
  go_wp2_with (fail)
  go_ret2
  exact ⟨rfl, by first | exact B2.out | (rw [← BX.out]; exact B2.out)⟩

theorem rsides_any (w : World) (u : Value) (D : Dg) (h : DgAt w NoB u D) (x v : Int) (hx : x < D.nodes.length + 2) (hv : v < 64) :
    Calls Try.prog 129 #[u, .int .i64 x, .int .i64 v] w fun e w' => e = .returned (.tuple #[.int .i64 (sides D.nodes x v).1, .int .i64 (sides D.nodes x v).2]) ∧ Below w.heap.size w w' := by
  by_cases he : level D.nodes x = v
  · have h2 : ¬ x < 2 := by
      intro h2
      unfold level at he
      rw [if_pos h2] at he; omega
    obtain ⟨i, rfl⟩ : ∃ i : Nat, x = (i : Int) + 2 := ⟨(x - 2).toNat, by omega⟩
    have hi : i < D.nodes.length := by omega
    rw [level_at _ _ hi] at he
    subst he
    rw [sides_at _ _ hi]
    exact rsides_node w u D h i hi
  · have e : sides D.nodes x v = (x, x) := by unfold sides; rw [if_neg he]
    rw [e]; exact rsides_other w u D h x v hx he

set_option maxRecDepth 100000 in
set_option maxHeartbeats 400000 in
theorem rconstant_any (w : World) (b : Bool) :
    Calls Try.prog 106 #[.bool b] w fun e w' => ∃ r, e = .returned r ∧ (∀ M : Nat → Prop, DgAt w' M r (T.leaf b).canon) ∧ Below w.heap.size w w' := by
  obtain ⟨w0, b0, e0, hb0, z0, h0, B0⟩ := laid w dg0 28
  have BW : Hid (Below w.heap.size w w0) := B0
  obtain ⟨s0, s1⟩ := box2 (r := 0) (S := .slice none 0 0) h0
  have sf := frozen_box h0
  have K := Lib.hid h0; have HB0 := Lib.hid hb0
  clear h0 B0
  cases b
  · go_enter Try.func106, Try.ntmps106
    go_wp2_with (fail)
    obtain ⟨w8, e8, P8, Q8, S8⟩ := put2 (w0 := w) (c0 := .slice none 0 0) (c1 := .int .i64 0) K.out BW.out (by have := HB0.out; omega)
    rw [e8]
    obtain ⟨u0, u1⟩ := box2 P8
    refine bodyPost_ret (v := .agg #[.slice none 0 0, .int .i64 0]) (by simp [results, Try.results106, go_sem, u0, u1]) rfl ?_
    refine ⟨_, rfl, fun M => ?_, by first | exact Q8 | (rw [← HB0.out]; exact Q8)⟩
    rw [canon_leaf]
    exact ⟨⟨(fun b hb => by cases hb), ⟨by decide, by decide⟩⟩, _, rfl, Brs.nil _ M⟩
  · go_enter Try.func106, Try.ntmps106
    go_wp2_with (fail)
    obtain ⟨w8, e8, P8, Q8, S8⟩ := put2 (w0 := w) (c0 := .slice none 0 0) (c1 := .int .i64 1) K.out BW.out (by have := HB0.out; omega)
    rw [e8]
    obtain ⟨u0, u1⟩ := box2 P8
    refine bodyPost_ret (v := .agg #[.slice none 0 0, .int .i64 1]) (by simp [results, Try.results106, go_sem, u0, u1]) rfl ?_
    refine ⟨_, rfl, fun M => ?_, by first | exact Q8 | (rw [← HB0.out]; exact Q8)⟩
    rw [canon_leaf]
    exact ⟨⟨(fun b hb => by cases hb), ⟨by decide, by decide⟩⟩, _, rfl, Brs.nil _ M⟩

set_option maxRecDepth 100000 in
set_option maxHeartbeats 400000 in
theorem rvar_any (w : World) (v : Nat) (hv : v ≤ 63) :
    Calls Try.prog 53 #[.int .i64 (v : Int)] w fun e w' => ∃ r, e = .returned (.tuple #[r, .int .i64 0]) ∧ (∀ M : Nat → Prop, (∀ b, M b → b < w.heap.size) → DgAt w' M r (litT v).canon) ∧ Below w.heap.size w w' := by
  obtain ⟨w0, b0, e0, hb0, z0, h0, B0⟩ := laid w dg0 28
  obtain ⟨w1, b1, e1, hb1, z1, h1, B1⟩ := laid w0 (br3 v 0 1) 44
  obtain rfl : b1 = b0 + 1 := by omega
  clear hb1
  have BW : Hid (Below w.heap.size w w1) := B0.trans (B1.mono B0.size)
  have h0' := heap_below B1 h0
  obtain ⟨s0, s1⟩ := box2 (r := 0) (S := .slice none 0 0) h0'
  have sf := frozen_box h0'
  have K := Lib.hid h0'; have K1 := Lib.hid h1; have HB0 := Lib.hid hb0; have Z1 := Lib.hid z1
  have hv0 : (v : Int) ≤ 63 := by omega
  have HV := Lib.hid hv
  clear h0 h0' h1 B0 B1 hv
  go_enter Try.func53, Try.ntmps53
  go_wp2_with (fail)
  obtain ⟨w8, e8, P8, Q8, S8⟩ := put2 (w0 := w) (c0 := .slice (some ⟨b0 + 1, 0, none⟩) 1 1) (c1 := .int .i64 2) K.out BW.out (by have := HB0.out; omega)
  rw [e8]
  obtain ⟨u0, u1⟩ := box2 P8
  refine bodyPost_ret (v := .tuple #[.agg #[.slice (some ⟨b0 + 1, 0, none⟩) 1 1, .int .i64 2], .int .i64 0]) (by simp [results, Try.results53, go_sem, u0, u1]) rfl ?_
  refine ⟨_, rfl, fun M hM => ?_, by first | exact Q8 | (rw [← HB0.out]; exact Q8)⟩
  have hbz := HB0.out
  have k8 : w8.heap[b0 + 1]? = some (.cells (br3 v 0 1) 44 (0, 0)) := (S8.block (b0 + 1) (by have := Z1.out; omega) (by omega)).trans K1.out
  have lt8 : b0 + 1 < w8.heap.size := by rw [Array.getElem?_eq_some_iff] at k8; exact k8.1
  rw [canon_lit]
  refine ⟨⟨fun b hb => ?_, ⟨by simp, by simp⟩⟩, _, rfl, some ⟨b0 + 1, 0, none⟩, 1, rfl, by simp, by decide, fun h => (nomatch h), .inr ⟨b0 + 1, 0, rfl, lt8, fun h => by have := hM _ h; omega, fun j u hu => ?_⟩⟩
  · simp only [List.mem_singleton] at hb
    subst hb
    have := HV.out
    exact ⟨⟨by simp only; omega, by simp only; omega⟩, ⟨by simp, by simp⟩, ⟨by simp, by simp⟩⟩
  · rw [Nat.zero_add, cell_of_row w8 (b0 + 1) j _ _ _ k8]
    simpa [bcells] using hu

set_option maxRecDepth 100000 in
set_option maxHeartbeats 400000 in
theorem rvar_bad (w : World) (v : Int) (hv : v < 0 ∨ 63 < v) :
    Calls Try.prog 53 #[.int .i64 v] w fun e w' => e = .returned (.tuple #[.agg dg0, .int .i64 1]) ∧ Below w.heap.size w w' := by
  obtain ⟨w0, b0, e0, hb0, z0, h0, B0⟩ := laid w dg0 28
  have BW : Hid (Below w.heap.size w w0) := B0
  obtain ⟨s0, s1⟩ := box2 (r := 0) (S := .slice none 0 0) h0
  have sf := frozen_box h0
  have K := Lib.hid h0; have HB0 := Lib.hid hb0
  clear h0 B0
  have hcase : v < 0 ∨ (0 ≤ v ∧ 63 < v) := by omega
  clear hv
  rcases hcase with h1 | ⟨h1, h2⟩
  all_goals
    go_enter Try.func53, Try.ntmps53
    go_wp2_with (fail)
    obtain ⟨w8, e8, P8, Q8, S8⟩ := put2 (w0 := w) (c0 := .slice none 0 0) (c1 := .int .i64 0) K.out BW.out (by have := HB0.out; omega)
    rw [e8]
    obtain ⟨u0, u1⟩ := box2 P8
    refine bodyPost_ret (v := .tuple #[.agg dg0, .int .i64 1]) (by simp [results, Try.results53, go_sem, u0, u1]) rfl ?_
    exact ⟨rfl, by first | exact Q8 | (rw [← HB0.out]; exact Q8)⟩

end Go.Proofs.Ytohmibmakelclaa

namespace Go.Proofs.Ytohmibmakelclaa
set_option linter.unusedVariables false
set_option linter.unusedSimpArgs false
open Go.RowKit

/-- The block that holds a row. -/
def RM (S : Value) : Nat → Prop := fun k => S.ownBlock = some k

/-- What unique hands back. -/
def UniqDoes (w w' : World) (e : Ending) (B : Nat) (ns : List Br) (S : Value) (v l r : Nat) : Prop :=
  ∃ (m : Nat) (x : List Br) (S' : Value), e = .returned (.tuple #[S', .int .i64 (m : Int)]) ∧ w'.ownsRow B 44 3 S' (ns ++ x).length (bcells (ns ++ x)) ∧ Wf (ns ++ x) ∧ Step (RM S) w (RM S') w' ∧ x.length ≤ 1 ∧ m < (ns ++ x).length + 2 ∧ tr (ns ++ x) m = (if l = r then tr ns l else .node v (tr ns l) (tr ns r))

set_option maxRecDepth 100000 in
set_option maxHeartbeats 1000000 in
theorem unique_same (w : World) (S : Value) (v l : Int) (a : Option Addr) (n c : Nat) (hS : S = .slice a n c) :
    Calls Try.prog 107 #[S, .agg #[.int .i64 v, .int .i64 l, .int .i64 l]] w fun e w' => e = .returned (.tuple #[S, .int .i64 l]) ∧ Below w.heap.size w w' := by
  subst hS
  obtain ⟨w1, bq, e1, hbq, hsz, h1, hb1⟩ := laid w (br3 v l l) 44
  obtain ⟨y0, y1, y2⟩ := box3 h1
  have HB := Lib.hid hb1
  clear h1 hb1
  go_enter Try.func107, Try.ntmps107
  go_wp2_with (fail)
  go_quiet (fail)
  have B1 := Lib.hid (below_drewN HB.out nq)
  go_wp2_with (fail)
  go_ret2
  exact ⟨rfl, by first | exact B1.out | (rw [← hbq]; exact B1.out)⟩

set_option maxRecDepth 100000 in
set_option maxHeartbeats 2000000 in
theorem unique_ne (w : World) (B : Nat) (S : Value) (ns : List Br) (row : w.ownsRow B 44 3 S ns.length (bcells ns)) (hw : Wf ns) (v l r : Nat) (hv : v ≤ 63) (hl : l ≤ ns.length + 1) (hr : r ≤ ns.length + 1) (hne : l ≠ r) (hlv : v < (tr ns l).lv ∧ v < (tr ns r).lv) (hlen : ns.length ≤ 1099511627776) (hB : B ≤ w.heap.size) :
    Calls Try.prog 107 #[S, .agg #[.int .i64 (v : Int), .int .i64 (l : Int), .int .i64 (r : Int)]] w fun e w' => UniqDoes w w' e B ns S v l r := by
  obtain ⟨sa, sc, hS, -⟩ := ownsRow_shape row
  obtain ⟨w1, bq, e1, hbq, hsz, h1, hb1⟩ := laid w (br3 (v : Int) (l : Int) (r : Int)) 44
  obtain ⟨y0, y1, y2⟩ := box3 h1
  have e0 : ((l : Int) == (r : Int)) = false := by simp; omega
  have HROW := Lib.hid row; have HS := Lib.hid hS; have HB1 := Lib.hid hb1; have H1 := Lib.hid h1; have HW := Lib.hid hw; have HLV := Lib.hid hlv; have HBQ := Lib.hid hbq
  obtain ⟨i0, hi0', hz0, hz1, hz2⟩ := info_parts infobr
  subst hS
  have BR0 : Hid (Below w1.heap.size w1 w1) := Below.refl _ _
  have NO : Hid (∀ k : Nat, k < 0 → ns[k]? ≠ some ⟨v, l, r⟩) := fun k hk => by omega
  have hn0 : (ns.length : Int) ≤ 1099511627776 := by omega
  clear row h1 hb1 hw hlv
  go_enter Try.func107, Try.ntmps107
  go_wp2_with (fail)
  go_loopw [6] (fun i wr => ∃ j : Nat, j ≤ ns.length ∧ i = .int .i64 j ∧ Hid (∀ k : Nat, k < j → ns[k]? ≠ some ⟨v, l, r⟩) ∧ Hid (Below w1.heap.size w1 wr)) (fun i _ => ns.length - (intOf i).toNat)
  case atStart => exact ⟨0, Nat.zero_le _, rfl, NO, BR0⟩
  case round =>
    clear NO BR0 y0 y1 y2
    obtain ⟨j, hj, rfl, NJ, BR⟩ := hrel
    obtain ⟨y0, y1, y2⟩ := box3 (heap_below BR.out H1.out)
    have BW : Hid (Below w.heap.size w wr) := HB1.out.trans (BR.out.mono HB1.out.size)
    by_cases hlt : j < ns.length
    · obtain ⟨b, off, hsa, -, -, c0, c1, c2⟩ := Brs.get (brs_of_own (M := NoB) (ownsRow_below BW.out HROW.out) (fun b _ h => h.elim)) j hlt
      subst hsa
      obtain ⟨x, hx⟩ : ∃ x, ns[j] = x := ⟨_, rfl⟩
      rw [hx] at c0 c1 c2
      have HX := Lib.hid hx
      have hj0 : (0 : Int) ≤ (j : Int) := by omega
      have hj1 : (j : Int) < (ns.length : Int) := by omega
      clear hx
      by_cases hxy : x = ⟨v, l, r⟩
      · subst hxy
        go_wp2_with (fail)
        go_quiet (fail)
        have B6 := Lib.hid (below_drewN BW.out nq)
        have hstd := (HW.out.stands (n := j + 2) (by omega)).2.2 (by omega)
        rw [show j + 2 - 2 = j by omega, List.getElem?_eq_getElem hlt, HX.out] at hstd
        obtain ⟨x', hx', e', -⟩ := hstd
        cases hx'
        simp only [Int.toNat_natCast] at e'
        have HE := Lib.hid e'
        clear e'
        go_wp2_with (fail)
        go_ret2
        exact ⟨j + 2, [], _, by rfl, by simpa using ownsRow_below B6.out HROW.out, by simpa using HW.out, Step.of_below B6.out _, by simp, by simp; omega, by rw [if_neg hne, List.append_nil]; exact HE.out⟩
      · have NJ' : Hid (∀ k : Nat, k < j + 1 → ns[k]? ≠ some ⟨v, l, r⟩) := by
          intro k hk
          by_cases e : k = j
          · subst e; rw [List.getElem?_eq_getElem hlt, HX.out]; intro h; exact hxy (Option.some.inj h)
          · exact NJ.out k (by omega)
        have hcase : x.v ≠ v ∨ (x.v = v ∧ x.l ≠ l) ∨ (x.v = v ∧ x.l = l ∧ x.h ≠ r) := by
          by_cases h1 : x.v = v
          · by_cases h2 : x.l = l
            · refine .inr (.inr ⟨h1, h2, fun h3 => hxy ?_⟩)
              cases x; simp only [Br.mk.injEq]; exact ⟨h1, h2, h3⟩
            · exact .inr (.inl ⟨h1, h2⟩)
          · exact .inl h1
        clear hxy HX
        rcases hcase with h1 | ⟨h0, h1⟩ | ⟨h0, h0', h1⟩
        all_goals
          go_wp2_with (fail)
          go_quiet (fail)
          have B6 := Lib.hid (below_drewN BR.out nq)
          go_wp2_with (fail)
          go_roundw
          case rel => exact ⟨j + 1, by omega, by go_num, NJ', B6⟩
          case measure => simp [intOf]; omega
    · obtain rfl : j = ns.length := by omega
      have hfresh : (⟨v, l, r⟩ : Br) ∉ ns := by
        intro h
        obtain ⟨k, hk, e⟩ := List.mem_iff_getElem.1 h
        exact NJ.out k hk (by rw [List.getElem?_eq_getElem hk, e])
      have hok : BrOk ns ⟨v, l, r⟩ := ⟨by simp, by simp; omega, by simp, by simp, by simp; omega, by simp; omega, by show (l : Int) ≠ r; omega, hfresh, by simp only [HW.out.lv (n := l) (by omega)]; have := HLV.out.1; omega, by simp only [HW.out.lv (n := r) (by omega)]; have := HLV.out.2; omega⟩
      have HOK := Lib.hid hok
      have R3 : Hid ((wr.alloc (.cells (br3 (v : Int) (l : Int) (r : Int)) 44)).ownsRow B 44 3 (.slice sa ns.length sc) ns.length (bcells ns)) := (ownsRow_below BW.out HROW.out).alloc _
      have N3 : Hid (∀ j u, ([.int .i64 (v : Int), .int .i64 (l : Int), .int .i64 (r : Int)] : List Value)[j]? = some u → (wr.alloc (.cells (br3 (v : Int) (l : Int) (r : Int)) 44)).cell? ((⟨wr.heap.size, 0, none⟩ : Addr).add j) = some u) := by
        intro j u hu
        rw [Addr.add_lit, World.cell?_alloc_at _ _ _ _ rfl]
        simpa using hu
      have HBS : Hid (B ≤ wr.heap.size) := Nat.le_trans hB BW.out.size
      clear hfresh hok NJ
      go_wp2_with (at_builtin; refine wpList_append_own_at _ rfl (.tmp 30) (.tmp 32) 26 rfl B 44 i0 (.agg #[.int .i64 0, .int .i64 0, .int .i64 0]) 3 24 Try.underlying26 hi0' hz0 hz1 hz2 rfl (by decide) (.slice sa ns.length sc) ns.length (bcells ns) rfl R3.out ⟨wr.heap.size, 0, none⟩ 1 1 [.int .i64 (v : Int), .int .i64 (l : Int), .int .i64 (r : Int)] rfl rfl N3.out (br3_one _ _ _) (by unfold maxLen; omega) (by omega) (by have := HBS.out; simp; omega) ?_)
      intro v' w4 hown4 hg4 _ hat4
      obtain ⟨q, hq⟩ : ∃ q, ns.length + 1 = q := ⟨_, rfl⟩
      rw [hq] at hown4
      obtain ⟨va, vc, hv'⟩ : ∃ va vc, v' = .slice va q vc := by obtain ⟨ao, cap, e, -⟩ := ownsRow_shape hown4; exact ⟨ao, cap, e⟩
      have HOWN4 := Lib.hid hown4; have HQ := Lib.hid hq
      have ST : Hid (Step (RM (.slice sa ns.length sc)) w (RM v') w4) := by
        refine (((Step.of_below BW.out (RM (.slice sa ns.length sc))).alloc _).grown hg4 (fun k e => .inl e)).to (fun _ h => h) (fun k hk => ?_)
        rcases hat4 with e | e
        · exact .inl (show Value.ownBlock _ = _ from e ▸ hk)
        · unfold RM at hk; rw [e] at hk; cases hk; exact .inr (by have := BW.out.size; simp; omega)
      have hq0 : (q : Int) ≤ 1099511627777 := by omega
      clear hown4 hg4 hat4 hq R3 N3
      subst hv'
      go_wp2_with (fail)
      go_ret2
      refine ⟨q + 1, [⟨v, l, r⟩], _, by rfl, ?_, .snoc HW.out HOK.out, ST.out, by simp, by simp; have := HQ.out; omega, ?_⟩
      · rw [bcells_append, List.length_append]; have := HOWN4.out; rw [← HQ.out] at this; rw [← HQ.out]; exact this
      · rw [if_neg hne, ← HQ.out, tr_new]; simp

theorem unique_any (w : World) (B : Nat) (S : Value) (ns : List Br) (row : w.ownsRow B 44 3 S ns.length (bcells ns)) (hw : Wf ns) (v l r : Nat) (hv : v ≤ 63) (hl : l ≤ ns.length + 1) (hr : r ≤ ns.length + 1) (hlv : l ≠ r → v < (tr ns l).lv ∧ v < (tr ns r).lv) (hlen : ns.length ≤ 1099511627776) (hB : B ≤ w.heap.size) :
    Calls Try.prog 107 #[S, .agg #[.int .i64 (v : Int), .int .i64 (l : Int), .int .i64 (r : Int)]] w fun e w' => UniqDoes w w' e B ns S v l r := by
  by_cases hlr : l = r
  · subst hlr
    obtain ⟨sa, sc, hS, -⟩ := ownsRow_shape row
    refine (unique_same w S v l sa ns.length sc hS).mono ?_
    rintro e w' ⟨rfl, hb⟩
    exact ⟨l, [], S, rfl, by simpa using ownsRow_below hb row, by simpa using hw, Step.of_below hb _, by simp, by simp; omega, by simp⟩
  · exact unique_ne w B S ns row hw v l r hv hl hr hlr (hlv hlr) hlen hB

end Go.Proofs.Ytohmibmakelclaa

namespace Go.Proofs.Ytohmibmakelclaa
set_option linter.unusedVariables false
set_option linter.unusedSimpArgs false
open Go.RowKit

/-- Triples as cells. -/
def tcells : List Spot → List Value
  | [] => []
  | q :: r => .int .i64 q.1 :: .int .i64 q.2.1 :: .int .i64 q.2.2 :: tcells r
theorem tcells_length : ∀ ss : List Spot, (tcells ss).length = ss.length * 3
  | [] => rfl
  | b :: ns => by simp only [tcells, List.length_cons, tcells_length ns]; omega
theorem tcells_append : ∀ a b : List Spot, tcells (a ++ b) = tcells a ++ tcells b
  | [], _ => rfl
  | x :: a, b => by simp [tcells, tcells_append a b]
theorem tcells_get : ∀ (ns : List Spot) (i : Nat) (h : i < ns.length), (tcells ns)[i * 3]? = some (.int .i64 ns[i].1) ∧ (tcells ns)[i * 3 + 1]? = some (.int .i64 ns[i].2.1) ∧ (tcells ns)[i * 3 + 2]? = some (.int .i64 ns[i].2.2)
  | [], i, h => by simp at h
  | b :: ns, 0, _ => by simp [tcells]
  | b :: ns, i + 1, h => by
    have := tcells_get ns i (by simpa using h)
    simp only [tcells]
    rw [show (i + 1) * 3 = i * 3 + 3 by omega, show i * 3 + 3 + 1 = (i * 3 + 1) + 3 by omega, show i * 3 + 3 + 2 = (i * 3 + 2) + 3 by omega]
    simpa using this
theorem tcells_one : ∀ (ns : List Spot), ∀ u ∈ tcells ns, u.oneCell' = true
  | [], u, h => by cases h
  | b :: ns, u, h => by
    simp only [tcells, List.mem_cons] at h
    rcases h with rfl | rfl | rfl | h
    · rfl
    · rfl
    · rfl
    · exact tcells_one ns u h

theorem own_get3 {w : World} {B n : Nat} {e : TypeId} {a : Option Addr} {c : Nat} {ss : List Spot} (h : w.ownsRow B e 3 (.slice a n c) n (tcells ss)) (j : Nat) (hj : j < ss.length) :
    ∃ b off, a = some ⟨b, off, none⟩ ∧ w.cell? ⟨b, off + j * 3, none⟩ = some (.int .i64 ss[j].1) ∧ w.cell? ⟨b, off + j * 3 + 1, none⟩ = some (.int .i64 ss[j].2.1) ∧ w.cell? ⟨b, off + j * 3 + 2, none⟩ = some (.int .i64 ss[j].2.2) := by
  obtain ⟨ao, cap, e', hc, hm, h0, hx⟩ := ownsRow_shape h
  cases e'
  obtain ⟨g1, g2, g3⟩ := tcells_get ss j hj
  have hl : (tcells ss).length = n * 3 := h.1
  rw [tcells_length] at hl
  cases a with
  | none => have := (h0 rfl).1; omega
  | some ad =>
    obtain ⟨o1, o2, -, hcell⟩ := hx ad rfl
    obtain ⟨b, off, sp⟩ := ad
    simp only at o1 o2
    subst o2
    refine ⟨b, off, rfl, ?_, ?_, ?_⟩
    · simpa [Addr.add_lit] using hcell _ _ g1
    · rw [Nat.add_assoc]; simpa [Addr.add_lit] using hcell _ _ g2
    · rw [Nat.add_assoc]; simpa [Addr.add_lit] using hcell _ _ g3

/-- An operation by its number. -/
def opOf (k : Nat) (x y : Bool) : Bool := if k = 0 then x && y else if k = 1 then x || y else x != y
abbrev Good2 (k : Nat) (t0 t1 t : T) : Prop := Good (fun x y _ => opOf k x y) t0 t1 (.leaf false) t

/-- The blocks that the application writes. -/
def AM (p : Nat) (S SS : Value) : Nat → Prop := fun k => k = p ∨ S.ownBlock = some k ∨ SS.ownBlock = some k

structure AInv (w0 w : World) (B k : Nat) (Da Db : Dg) (Sa Sb : Value) (p : Nat) (ns : List Br) (S : Value) (ss : List Spot) (SS : Value) : Prop where
  st : w.heap[p]? = some (.cells #[Sa, .int .i64 Da.root, Sb, .int .i64 Db.root, .int .i64 (k : Int), S, SS] 140 (0, 0))
  da : DgAt w (fun k => B ≤ k) (.agg #[Sa, .int .i64 Da.root]) Da
  db : DgAt w (fun k => B ≤ k) (.agg #[Sb, .int .i64 Db.root]) Db
  row : w.ownsRow B 44 3 S ns.length (bcells ns)
  sow : w.ownsRow B 114 3 SS ss.length (tcells ss)
  wf : Wf ns
  ok : ∀ q ∈ ss, ∃ a b r : Nat, q = ((a : Int), (b : Int), (r : Int)) ∧ a < Da.nodes.length + 2 ∧ b < Db.nodes.length + 2 ∧ r < ns.length + 2 ∧ Good2 k (tr Da.nodes a) (tr Db.nodes b) (tr ns r)
  nd : (ss.map (fun q => (q.1, q.2.1))).Nodup
  bel : Below B w0 w
  hp : B ≤ p

section
variable {w0 w : World} {B k : Nat} {Da Db : Dg} {Sa Sb : Value} {p : Nat} {ns : List Br} {S : Value} {ss : List Spot} {SS : Value}

theorem AInv.len (h : AInv w0 w B k Da Db Sa Sb p ns S ss SS) : ss.length ≤ (Da.nodes.length + 2) * (Db.nodes.length + 2) := by
  have h1 := nodup_sub_le (ss.map (fun q => (q.1, q.2.1))) ((List.range (Da.nodes.length + 2)).flatMap fun (x : Nat) => (List.range (Db.nodes.length + 2)).map fun (y : Nat) => ((x : Int), (y : Int))) h.nd (fun q hq => by
    rw [List.mem_map] at hq
    obtain ⟨z, hz, rfl⟩ := hq
    obtain ⟨a, b, r, rfl, h1, h2, -⟩ := h.ok z hz
    exact List.mem_flatMap.2 ⟨a, List.mem_range.2 h1, List.mem_map.2 ⟨b, List.mem_range.2 h2, rfl⟩⟩)
  have h2 : ∀ n m : Nat, ((List.range n).flatMap fun (x : Nat) => (List.range m).map fun (y : Nat) => ((x : Int), (y : Int))).length = n * m := by
    intro n m
    induction n with
    | zero => simp
    | succ n ih => rw [List.range_succ, List.flatMap_append, List.length_append, ih]; simp; rw [Nat.succ_mul]
  rw [List.length_map, h2] at h1
  exact h1

/-- The blocks of the application are apart, and new. -/
theorem AInv.away (h : AInv w0 w B k Da Db Sa Sb p ns S ss SS) : S.ownBlock ≠ some p ∧ SS.ownBlock ≠ some p ∧ (∀ g, S.ownBlock = some g → SS.ownBlock ≠ some g) ∧ (∀ g, AM p S SS g → B ≤ g ∧ g < w.heap.size) := by
  refine ⟨fun e => ?_, fun e => ?_, fun g e e' => ?_, fun g hg => ?_⟩
  · obtain ⟨cs, hc⟩ := own_type h.row e
    exact ne_type hc h.st (by decide) rfl
  · obtain ⟨cs, hc⟩ := own_type h.sow e
    exact ne_type hc h.st (by decide) rfl
  · obtain ⟨cs, hc⟩ := own_type h.row e
    obtain ⟨cs', hc'⟩ := own_type h.sow e'
    exact ne_type hc hc' (by decide) rfl
  · rcases hg with e | e | e
    · rw [e]; exact ⟨h.hp, by have := h.st; rw [Array.getElem?_eq_some_iff] at this; exact this.1⟩
    · exact h.row.lt g e
    · exact h.sow.lt g e

theorem AInv.below (h : AInv w0 w B k Da Db Sa Sb p ns S ss SS) {w' : World} (hb : Below w.heap.size w w') : AInv w0 w' B k Da Db Sa Sb p ns S ss SS :=
  ⟨heap_below hb h.st, h.da.below hb, h.db.below hb, ownsRow_below hb h.row, ownsRow_below hb h.sow, h.wf, h.ok, h.nd, h.bel.trans (hb.mono (by have := (h.away.2.2.2 p (.inl rfl)).1; have := (h.away.2.2.2 p (.inl rfl)).2; omega)), h.hp⟩

/-- The application's cells. -/
theorem AInv.cells (h : AInv w0 w B k Da Db Sa Sb p ns S ss SS) : w.cell? ⟨p, 0, none⟩ = some Sa ∧ w.cell? ⟨p, 1, none⟩ = some (.int .i64 Da.root) ∧ w.cell? ⟨p, 2, none⟩ = some Sb ∧ w.cell? ⟨p, 3, none⟩ = some (.int .i64 Db.root) ∧ w.cell? ⟨p, 4, none⟩ = some (.int .i64 (k : Int)) ∧ w.cell? ⟨p, 5, none⟩ = some S ∧ w.cell? ⟨p, 6, none⟩ = some SS := by
  refine ⟨?_, ?_, ?_, ?_, ?_, ?_, ?_⟩ <;> (rw [cell_of_row w p _ _ _ _ h.st]; rfl)
end

theorem constant_bits (w : World) (p k : Nat) (hc : w.cell? ⟨p, 4, none⟩ = some (.int .i64 (k : Int))) (hk : k < 3) (x y : Bool) :
    Calls Try.prog 128 #[.pointer (some ⟨p, 0, none⟩), .int .i64 (bit x : Int), .int .i64 (bit y : Int)] w fun e w' => e = .returned (.int .i64 (bit (opOf k x y) : Int)) ∧ w = w' := by
  have hcase : k = 0 ∨ k = 1 ∨ k = 2 := by omega
  rcases hcase with rfl | rfl | rfl <;> cases x <;> cases y
  all_goals
    simp only [bit] at hc ⊢
    go_enter Try.func128, Try.ntmps128
    go_wp2_with (fail)
    go_ret
    exact ⟨by rfl, rfl⟩

end Go.Proofs.Ytohmibmakelclaa
