/-
  Complement, intersection, union, symmetric difference.
  No condition.
-/
import Derived.Test.YtohmibmakelclaaPkH
import Derived.Laws.Bits64b
namespace Go.Proofs.Ytohmibmakelclaa
set_option linter.unusedVariables false
set_option linter.unusedSimpArgs false
open Go.RowKit

theorem Gives.tuple {w w' : World} {e : Ending} {c : Int} {f : (Nat → Bool) → Bool} (h : Gives w w' e c f) : ∃ (a : Option Addr) (n k : Nat) (r c' : Int), e = .returned (.tuple #[.agg #[.slice a n k, .int .i64 r], .int .i64 c']) := by
  by_cases hc : c = 0
  · obtain ⟨r, t, -, -, he, hd⟩ := h.2 hc
    obtain ⟨a, k, rfl⟩ := (hd NoB (fun b h => h.elim)).shape
    unfold lim at he
    split at he
    · exact ⟨a, _, k, _, 0, he⟩
    · exact ⟨none, 0, 0, 0, 2, he⟩
  · exact ⟨none, 0, 0, 0, c, h.1 hc⟩

/-- The result is put into a block of the caller's. -/
theorem Gives.out {w w3 w4 w8 : World} {e : Ending} {c : Int} {f : (Nat → Bool) → Bool} (h : Gives w3 w4 e c f) {b : Nat} (hle : w.heap.size ≤ w3.heap.size) (hb : b < w3.heap.size) (hs : Step (fun k => k = b) w4 (fun k => k = b) w8) : Gives w w8 e c f := by
  refine ⟨h.1, fun hc => ?_⟩
  obtain ⟨r, t, h1, h2, h3, h4⟩ := h.2 hc
  refine ⟨r, t, h1, h2, h3, fun M hM => ?_⟩
  have h5 := h4 (fun k => M k ∨ k = b) (fun k hk => by
    rcases hk with hk | hk
    · have := hM k hk; omega
    · omega)
  exact (h5.step (hs.wide (fun k hk => .inr hk))).wide (fun k hk => .inl hk)

set_option maxRecDepth 100000 in
set_option maxHeartbeats 400000 in
theorem opAnd : Op2Does 61 (fun x y => x && y) := by
  refine ⟨fun args w => by go_simp, fun w x y => ?_⟩
  cases x <;> cases y
  all_goals
    go_enter Try.func61, Try.ntmps61
    go_wp2_with (fail)
    go_ret
    exact ⟨rfl, Below.refl _ _⟩

set_option maxRecDepth 100000 in
set_option maxHeartbeats 400000 in
theorem opOr : Op2Does 62 (fun x y => x || y) := by
  refine ⟨fun args w => by go_simp, fun w x y => ?_⟩
  cases x <;> cases y
  all_goals
    go_enter Try.func62, Try.ntmps62
    go_wp2_with (fail)
    go_ret
    exact ⟨rfl, Below.refl _ _⟩

set_option maxRecDepth 100000 in
set_option maxHeartbeats 400000 in
theorem opXor : Op2Does 77 (fun x y => x != y) := by
  refine ⟨fun args w => by go_simp, fun w x y => ?_⟩
  cases x <;> cases y
  all_goals
    go_enter Try.func77, Try.ntmps77
    go_wp2_with (fail)
    go_ret
    exact ⟨rfl, Below.refl _ _⟩

set_option maxRecDepth 100000 in
set_option maxHeartbeats 400000 in
theorem opNot : Op2Does 66 (fun x y => !x) := by
  refine ⟨fun args w => by go_simp, fun w x y => ?_⟩
  cases x <;> cases y
  all_goals
    go_enter Try.func66, Try.ntmps66
    go_wp2_with (fail)
    go_ret
    exact ⟨rfl, Below.refl _ _⟩

set_option maxRecDepth 100000 in
set_option maxHeartbeats 1000000 in
theorem and_any (w : World) (va vb : Value) (Da Db : Dg) (ha : DgAt w NoB va Da) (hb : DgAt w NoB vb Db) :
    Calls Try.prog 19 #[va, vb] w fun e w' => Gives w w' e (err2 Da Db) (fun x => Da.tree.ev x && Db.tree.ev x) ∧ Below w.heap.size w w' := by
  obtain ⟨aa, ca, rfl⟩ := ha.shape
  obtain ⟨ab, cb, rfl⟩ := hb.shape
  obtain ⟨w0, b0, e0, hb0, z0, h0, B0⟩ := laid w #[.slice aa Da.nodes.length ca, .int .i64 Da.root] 28
  obtain ⟨w1, b1, e1, hb1, z1, h1, B1⟩ := laid w0 #[.slice ab Db.nodes.length cb, .int .i64 Db.root] 28
  obtain rfl : b1 = b0 + 1 := by omega
  replace z1 : w1.heap.size = b0 + 2 := by omega
  obtain ⟨w3, b3, e3, hb3, z3, h3, B3⟩ := laid w1 dg0 28
  obtain rfl : b3 = b0 + 2 := by omega
  replace z3 : w3.heap.size = b0 + 3 := by omega
  clear hb1 hb3
  have B13 := B1.trans (B3.mono B1.size)
  have BW : Hid (Below w.heap.size w w3) := B0.trans (B13.mono B0.size)
  obtain ⟨x0, x1⟩ := box2 (heap_below B13 h0)
  obtain ⟨y0, y1⟩ := box2 (heap_below B3 h1)
  have K3 := Lib.hid h3; have Z3 := Lib.hid z3; have HB0 := Lib.hid hb0
  have HA := Lib.hid (ha.below BW.out); have HB := Lib.hid (hb.below BW.out)
  clear h0 h1 h3 B0 B1 B3 B13 ha hb
  go_enter Try.func19, Try.ntmps19
  go_wp2_with (fail)
  refine (binary_any w3 _ _ Da Db HA.out HB.out _ _ opAnd).mono ?_
  rintro e w4 ⟨hG, hb4⟩
  obtain ⟨a, n, k, r, c', rfl⟩ := hG.tuple
  have K4 := heap_below hb4 K3.out
  have B4 : Hid (Below w.heap.size w w4) := BW.out.trans (hb4.mono BW.out.size)
  obtain ⟨s0, s1⟩ := box2 (r := 0) (S := .slice none 0 0) K4
  have sf := frozen_box K4
  have K4h := Lib.hid K4; have HG := Lib.hid hG
  clear hb4 K4 hG x0 x1 y0 y1 e0 e1 e3 z0 z1 z3
  go_wp2_with (fail)
  obtain ⟨w8, e8, P8, Q8, S8⟩ := put2 (w0 := w) (c0 := .slice a n k) (c1 := .int .i64 r) K4h.out B4.out (by have := HB0.out; omega)
  rw [e8]
  obtain ⟨u0, u1⟩ := box2 P8
  refine bodyPost_ret (v := .tuple #[.agg #[.slice a n k, .int .i64 r], .int .i64 c']) (by simp [results, Try.results19, go_sem, u0, u1]) rfl ?_
  have FIN := HG.out.out (w := w) (b := b0 + 2) (by have := BW.out.size; omega) (by have := Z3.out; omega) S8
  first | exact ⟨FIN, Q8⟩ | (rw [← HB0.out]; exact ⟨FIN, Q8⟩)

set_option maxRecDepth 100000 in
set_option maxHeartbeats 1000000 in
theorem or_any (w : World) (va vb : Value) (Da Db : Dg) (ha : DgAt w NoB va Da) (hb : DgAt w NoB vb Db) :
    Calls Try.prog 22 #[va, vb] w fun e w' => Gives w w' e (err2 Da Db) (fun x => Da.tree.ev x || Db.tree.ev x) ∧ Below w.heap.size w w' := by
  obtain ⟨aa, ca, rfl⟩ := ha.shape
  obtain ⟨ab, cb, rfl⟩ := hb.shape
  obtain ⟨w0, b0, e0, hb0, z0, h0, B0⟩ := laid w #[.slice aa Da.nodes.length ca, .int .i64 Da.root] 28
  obtain ⟨w1, b1, e1, hb1, z1, h1, B1⟩ := laid w0 #[.slice ab Db.nodes.length cb, .int .i64 Db.root] 28
  obtain rfl : b1 = b0 + 1 := by omega
  replace z1 : w1.heap.size = b0 + 2 := by omega
  obtain ⟨w3, b3, e3, hb3, z3, h3, B3⟩ := laid w1 dg0 28
  obtain rfl : b3 = b0 + 2 := by omega
  replace z3 : w3.heap.size = b0 + 3 := by omega
  clear hb1 hb3
  have B13 := B1.trans (B3.mono B1.size)
  have BW : Hid (Below w.heap.size w w3) := B0.trans (B13.mono B0.size)
  obtain ⟨x0, x1⟩ := box2 (heap_below B13 h0)
  obtain ⟨y0, y1⟩ := box2 (heap_below B3 h1)
  have K3 := Lib.hid h3; have Z3 := Lib.hid z3; have HB0 := Lib.hid hb0
  have HA := Lib.hid (ha.below BW.out); have HB := Lib.hid (hb.below BW.out)
  clear h0 h1 h3 B0 B1 B3 B13 ha hb
  go_enter Try.func22, Try.ntmps22
  go_wp2_with (fail)
  refine (binary_any w3 _ _ Da Db HA.out HB.out _ _ opOr).mono ?_
  rintro e w4 ⟨hG, hb4⟩
  obtain ⟨a, n, k, r, c', rfl⟩ := hG.tuple
  have K4 := heap_below hb4 K3.out
  have B4 : Hid (Below w.heap.size w w4) := BW.out.trans (hb4.mono BW.out.size)
  obtain ⟨s0, s1⟩ := box2 (r := 0) (S := .slice none 0 0) K4
  have sf := frozen_box K4
  have K4h := Lib.hid K4; have HG := Lib.hid hG
  clear hb4 K4 hG x0 x1 y0 y1 e0 e1 e3 z0 z1 z3
  go_wp2_with (fail)
  obtain ⟨w8, e8, P8, Q8, S8⟩ := put2 (w0 := w) (c0 := .slice a n k) (c1 := .int .i64 r) K4h.out B4.out (by have := HB0.out; omega)
  rw [e8]
  obtain ⟨u0, u1⟩ := box2 P8
  refine bodyPost_ret (v := .tuple #[.agg #[.slice a n k, .int .i64 r], .int .i64 c']) (by simp [results, Try.results22, go_sem, u0, u1]) rfl ?_
  have FIN := HG.out.out (w := w) (b := b0 + 2) (by have := BW.out.size; omega) (by have := Z3.out; omega) S8
  first | exact ⟨FIN, Q8⟩ | (rw [← HB0.out]; exact ⟨FIN, Q8⟩)

set_option maxRecDepth 100000 in
set_option maxHeartbeats 1000000 in
theorem xor_any (w : World) (va vb : Value) (Da Db : Dg) (ha : DgAt w NoB va Da) (hb : DgAt w NoB vb Db) :
    Calls Try.prog 33 #[va, vb] w fun e w' => Gives w w' e (err2 Da Db) (fun x => Da.tree.ev x != Db.tree.ev x) ∧ Below w.heap.size w w' := by
  obtain ⟨aa, ca, rfl⟩ := ha.shape
  obtain ⟨ab, cb, rfl⟩ := hb.shape
  obtain ⟨w0, b0, e0, hb0, z0, h0, B0⟩ := laid w #[.slice aa Da.nodes.length ca, .int .i64 Da.root] 28
  obtain ⟨w1, b1, e1, hb1, z1, h1, B1⟩ := laid w0 #[.slice ab Db.nodes.length cb, .int .i64 Db.root] 28
  obtain rfl : b1 = b0 + 1 := by omega
  replace z1 : w1.heap.size = b0 + 2 := by omega
  obtain ⟨w3, b3, e3, hb3, z3, h3, B3⟩ := laid w1 dg0 28
  obtain rfl : b3 = b0 + 2 := by omega
  replace z3 : w3.heap.size = b0 + 3 := by omega
  clear hb1 hb3
  have B13 := B1.trans (B3.mono B1.size)
  have BW : Hid (Below w.heap.size w w3) := B0.trans (B13.mono B0.size)
  obtain ⟨x0, x1⟩ := box2 (heap_below B13 h0)
  obtain ⟨y0, y1⟩ := box2 (heap_below B3 h1)
  have K3 := Lib.hid h3; have Z3 := Lib.hid z3; have HB0 := Lib.hid hb0
  have HA := Lib.hid (ha.below BW.out); have HB := Lib.hid (hb.below BW.out)
  clear h0 h1 h3 B0 B1 B3 B13 ha hb
  go_enter Try.func33, Try.ntmps33
  go_wp2_with (fail)
  refine (binary_any w3 _ _ Da Db HA.out HB.out _ _ opXor).mono ?_
  rintro e w4 ⟨hG, hb4⟩
  obtain ⟨a, n, k, r, c', rfl⟩ := hG.tuple
  have K4 := heap_below hb4 K3.out
  have B4 : Hid (Below w.heap.size w w4) := BW.out.trans (hb4.mono BW.out.size)
  obtain ⟨s0, s1⟩ := box2 (r := 0) (S := .slice none 0 0) K4
  have sf := frozen_box K4
  have K4h := Lib.hid K4; have HG := Lib.hid hG
  clear hb4 K4 hG x0 x1 y0 y1 e0 e1 e3 z0 z1 z3
  go_wp2_with (fail)
  obtain ⟨w8, e8, P8, Q8, S8⟩ := put2 (w0 := w) (c0 := .slice a n k) (c1 := .int .i64 r) K4h.out B4.out (by have := HB0.out; omega)
  rw [e8]
  obtain ⟨u0, u1⟩ := box2 P8
  refine bodyPost_ret (v := .tuple #[.agg #[.slice a n k, .int .i64 r], .int .i64 c']) (by simp [results, Try.results33, go_sem, u0, u1]) rfl ?_
  have FIN := HG.out.out (w := w) (b := b0 + 2) (by have := BW.out.size; omega) (by have := Z3.out; omega) S8
  first | exact ⟨FIN, Q8⟩ | (rw [← HB0.out]; exact ⟨FIN, Q8⟩)

end Go.Proofs.Ytohmibmakelclaa

namespace Go.Proofs.Ytohmibmakelclaa
set_option linter.unusedVariables false
set_option linter.unusedSimpArgs false
open Go.RowKit

theorem zeroDg_valid : Valid zeroDg := ⟨.leaf false, trivial, rfl⟩
theorem err2_zeroDg (D : Dg) : err2 D zeroDg = code D := by
  unfold err2
  rw [code_ok (by simp) zeroDg_valid]
  split
  · rename_i h; exact h.symm
  · rfl

set_option maxRecDepth 100000 in
set_option maxHeartbeats 1000000 in
theorem not_any (w : World) (va : Value) (Da : Dg) (ha : DgAt w NoB va Da) :
    Calls Try.prog 25 #[va] w fun e w' => Gives w w' e (code Da) (fun x => !Da.tree.ev x) ∧ Below w.heap.size w w' := by
  obtain ⟨aa, ca, rfl⟩ := ha.shape
  obtain ⟨w0, b0, e0, hb0, z0, h0, B0⟩ := laid w #[.slice aa Da.nodes.length ca, .int .i64 Da.root] 28
  obtain ⟨w3, b3, e3, hb3, z3, h3, B3⟩ := laid w0 dg0 28
  obtain rfl : b3 = b0 + 1 := by omega
  replace z3 : w3.heap.size = b0 + 2 := by omega
  clear hb3
  have BW : Hid (Below w.heap.size w w3) := B0.trans (B3.mono B0.size)
  obtain ⟨x0, x1⟩ := box2 (heap_below B3 h0)
  have K3 := Lib.hid h3; have Z3 := Lib.hid z3; have HB0 := Lib.hid hb0
  have HA := Lib.hid (ha.below BW.out)
  clear h0 h3 B0 B3 ha
  go_enter Try.func25, Try.ntmps25
  go_wp2_with (fail)
  refine (binary_any w3 _ _ Da zeroDg HA.out (DgAt.zero _ _) _ _ opNot).mono ?_
  rintro e w4 ⟨hG, hb4⟩
  rw [err2_zeroDg] at hG
  obtain ⟨a, n, k, r, c', rfl⟩ := hG.tuple
  have K4 := heap_below hb4 K3.out
  have B4 : Hid (Below w.heap.size w w4) := BW.out.trans (hb4.mono BW.out.size)
  obtain ⟨s0, s1⟩ := box2 (r := 0) (S := .slice none 0 0) K4
  have sf := frozen_box K4
  have K4h := Lib.hid K4; have HG := Lib.hid hG
  clear hb4 K4 hG x0 x1 e0 e3 z0 z3
  go_wp2_with (fail)
  obtain ⟨w8, e8, P8, Q8, S8⟩ := put2 (w0 := w) (c0 := .slice a n k) (c1 := .int .i64 r) K4h.out B4.out (by have := HB0.out; omega)
  rw [e8]
  obtain ⟨u0, u1⟩ := box2 P8
  refine bodyPost_ret (v := .tuple #[.agg #[.slice a n k, .int .i64 r], .int .i64 c']) (by simp [results, Try.results25, go_sem, u0, u1]) rfl ?_
  have FIN := HG.out.out (w := w) (b := b0 + 1) (by have := BW.out.size; omega) (by have := Z3.out; omega) S8
  first | exact ⟨FIN, Q8⟩ | (rw [← HB0.out]; exact ⟨FIN, Q8⟩)

end Go.Proofs.Ytohmibmakelclaa

namespace Go.Proofs.Ytohmibmakelclaa
set_option linter.unusedVariables false
set_option linter.unusedSimpArgs false
open Go.RowKit

/-- The first error of three diagrams. -/
noncomputable def err3 (A B C : Dg) : Int := if code A = 0 then err2 B C else code A
theorem errOf_three (u v x : Value) (A B C : Dg) : errOf [(u, A), (v, B), (x, C)] = err3 A B C := by
  rw [show errOf [(u, A), (v, B), (x, C)] = if code A = 0 then errOf [(v, B), (x, C)] else code A from rfl, errOf_two]; rfl
theorem err3_zero {A B C : Dg} (h : err3 A B C = 0) : (A.nodes.length ≤ 4096 ∧ Valid A) ∧ (B.nodes.length ≤ 4096 ∧ Valid B) ∧ C.nodes.length ≤ 4096 ∧ Valid C := by
  unfold err3 at h
  split at h
  · exact ⟨code_zero (by assumption), err2_zero h⟩
  · exact absurd h (by assumption)

set_option maxRecDepth 100000 in
set_option maxHeartbeats 400000 in
theorem opChoose (w : World) (B : Nat) : OpDoes w B 70 #[] (fun x y z => x && y || !x && z) := by
  refine ⟨fun args w => by go_simp, fun w _ x y z => ?_⟩
  cases x <;> cases y <;> cases z
  all_goals
    go_enter Try.func70, Try.ntmps70
    go_wp2_with (fail)
    go_ret
    exact ⟨rfl, Below.refl _ _⟩

set_option maxRecDepth 100000 in
set_option maxHeartbeats 2000000 in
theorem choose_any (w : World) (va vb vc : Value) (Da Db Dc : Dg) (ha : DgAt w NoB va Da) (hb : DgAt w NoB vb Db) (hc : DgAt w NoB vc Dc) :
    Calls Try.prog 26 #[va, vb, vc] w fun e w' => Gives w w' e (err3 Da Db Dc) (fun x => Da.tree.ev x && Db.tree.ev x || !Da.tree.ev x && Dc.tree.ev x) ∧ Below w.heap.size w w' := by
  obtain ⟨aa, ca, rfl⟩ := ha.shape
  obtain ⟨ab, cb, rfl⟩ := hb.shape
  obtain ⟨ac, cc, rfl⟩ := hc.shape
  have hlc := hc.brs.len
  have hla := ha.brs.len
  have hlb := hb.brs.len
  obtain ⟨w0, b0, e0, hb0, z0, h0, B0⟩ := laid w #[.slice aa Da.nodes.length ca, .int .i64 Da.root] 28
  obtain ⟨w1, b1, e1, hb1, z1, h1, B1⟩ := laid w0 #[.slice ab Db.nodes.length cb, .int .i64 Db.root] 28
  obtain rfl : b1 = b0 + 1 := by omega
  replace z1 : w1.heap.size = b0 + 2 := by omega
  obtain ⟨w2, b2, e2, hb2, z2, h2, B2⟩ := laid w1 #[.slice ac Dc.nodes.length cc, .int .i64 Dc.root] 28
  obtain rfl : b2 = b0 + 2 := by omega
  replace z2 : w2.heap.size = b0 + 3 := by omega
  obtain ⟨w3, b3, e3, hb3, z3, h3, B3⟩ := laid w2 dg0 28
  obtain rfl : b3 = b0 + 3 := by omega
  replace z3 : w3.heap.size = b0 + 4 := by omega
  obtain ⟨w4, b4, e4, hb4, z4, h4, B4⟩ := laid w3 #[.slice aa Da.nodes.length ca, .int .i64 Da.root, .slice ab Db.nodes.length cb, .int .i64 Db.root, .slice ac Dc.nodes.length cc, .int .i64 Dc.root] 28
  obtain rfl : b4 = b0 + 4 := by omega
  replace z4 : w4.heap.size = b0 + 5 := by omega
  clear hb1 hb2 hb3 hb4
  have B34 := B3.trans (B4.mono B3.size)
  have B24 := B2.trans (B34.mono B2.size)
  have B14 := B1.trans (B24.mono B1.size)
  have BW : Hid (Below w.heap.size w w4) := B0.trans (B14.mono B0.size)
  have k0 := heap_below B14 h0
  have k1 := heap_below B24 h1
  have k2 := heap_below B34 h2
  have k3 := heap_below B4 h3
  obtain ⟨x0, x1⟩ := box2 (heap_below (B1.trans ((B2.trans (B3.mono B2.size)).mono B1.size)) h0)
  obtain ⟨y0, y1⟩ := box2 (heap_below (B2.trans (B3.mono B2.size)) h1)
  obtain ⟨v0, v1⟩ := box2 (heap_below B3 h2)
  have K0 := Lib.hid k0; have K1 := Lib.hid k1; have K2 := Lib.hid k2; have K3 := Lib.hid k3; have K4 := Lib.hid h4; have Z4 := Lib.hid z4; have HB0 := Lib.hid hb0
  have HA := Lib.hid (ha.below BW.out); have HB := Lib.hid (hb.below BW.out); have HCc := Lib.hid (hc.below BW.out)
  clear k0 k1 k2 k3 h0 h1 h2 h3 h4 B0 B1 B2 B3 B4 B34 B24 B14 ha hb hc
  go_enter Try.func26, Try.ntmps26
  go_wp2_with (fail)
  refine (checks_any w4 (b0 + 4) [(.slice aa Da.nodes.length ca, Da), (.slice ab Db.nodes.length cb, Db), (.slice ac Dc.nodes.length cc, Dc)] K4.out (fun p hp => ?_) (by simp)).mono ?_
  · simp only [List.mem_cons, List.not_mem_nil, or_false] at hp
    rcases hp with rfl | rfl | rfl
    · exact HA.out
    · exact HB.out
    · exact HCc.out
  rintro e w5 ⟨rfl, hb5⟩
  rw [errOf_three]
  have B5 : Hid (Below w.heap.size w w5) := BW.out.trans (hb5.mono BW.out.size)
  have K0' := heap_below hb5 K0.out
  have K1' := heap_below hb5 K1.out
  have K2' := heap_below hb5 K2.out
  have K3' := heap_below hb5 K3.out
  have HA5 := Lib.hid (HA.out.below hb5); have HB5 := Lib.hid (HB.out.below hb5); have HC5 := Lib.hid (HCc.out.below hb5)
  have Z5 : Hid (b0 + 5 ≤ w5.heap.size) := by show _ ≤ _; have := hb5.size; have := Z4.out; omega
  clear hb5 x0 x1 y0 y1 v0 v1 e0 e1 e2 e3 e4 z0 z1 z2 z3 z4
  obtain ⟨x0, x1⟩ := box2 K0'
  obtain ⟨y0, y1⟩ := box2 K1'
  obtain ⟨v0, v1⟩ := box2 K2'
  obtain ⟨r0, r1⟩ := box2 (r := 0) (S := .slice none 0 0) K3'
  have rf := frozen_box K3'
  have K2h := Lib.hid K2'; have K3h := Lib.hid K3'
  clear K0' K1' K2' K3'
  by_cases hc : err3 Da Db Dc = 0
  · rw [hc]
    obtain ⟨⟨la, va⟩, ⟨lb, vb⟩, lc, vc⟩ := err3_zero hc
    obtain ⟨a1, a2, a3, -⟩ := (valid_iff Da).1 va
    obtain ⟨c1, c2, c3, -⟩ := (valid_iff Db).1 vb
    obtain ⟨d1, d2, d3, -⟩ := (valid_iff Dc).1 vc
    have HC := Lib.hid hc; have HVA := Lib.hid va; have HVB := Lib.hid vb
    clear hc
    go_wp2_with (fail)
    refine (combine_any w5 (.slice aa Da.nodes.length ca) (.slice ab Db.nodes.length cb) (.slice ac Dc.nodes.length cc) Da Db Dc _ _ _ HA5.out HB5.out HC5.out a1 c1 d1 la lb lc a2 c2 d2 a3 c3 d3 (opChoose _ _)).mono ?_
    rintro e w6 ⟨r, t, rfl, hg, hM, hb6⟩
    obtain ⟨sa, sc, rfl⟩ := (hM NoB (fun b h => h.elim)).shape
    have hlen := (hM NoB (fun b h => h.elim)).brs.len
    have hl63 : t.canon.nodes.length ≤ 9223372036854775807 := by have := hlen.1; have := hlen.2.1; unfold maxLen at *; omega
    have HM := Lib.hid hM; have HG := Lib.hid hg; have HB6 := Lib.hid hb6
    clear hM hg hlen hb6
    go_wp2_with (fail)
    refine (limited_any w6 sa t.canon.nodes.length sc t.canon.root hl63).mono ?_
    rintro e w7 ⟨rfl, hb7⟩
    have K37 := heap_below (HB6.out.trans (hb7.mono HB6.out.size)) K3h.out
    have B7 : Hid (Below w.heap.size w w7) := (B5.out.trans (HB6.out.mono B5.out.size)).trans (hb7.mono (by have := B5.out.size; have := HB6.out.size; omega))
    have HB7 := Lib.hid hb7
    obtain ⟨s0, s1⟩ := box2 (r := 0) (S := .slice none 0 0) K37
    have sf := frozen_box K37
    have K37h := Lib.hid K37
    have FIN : Hid (∀ (c0 c1 : Value) (w8 : World), Below w.heap.size w w8 → Step (fun k => k = b0 + 3) w7 (fun k => k = b0 + 3) w8 → Gives w w8 (.returned (lim (.agg #[.slice sa t.canon.nodes.length sc, .int .i64 t.canon.root]) t.canon.nodes.length)) (err3 Da Db Dc) (fun x => Da.tree.ev x && Db.tree.ev x || !Da.tree.ev x && Dc.tree.ev x) ∧ Below w.heap.size w w8) := by
      intro _ _ w8 hw8 hs8
      refine ⟨⟨fun h => absurd HC.out h, fun _ => ⟨_, t, HG.out.ok, fun x => HG.out.ev x, rfl, fun M hM => ?_⟩⟩, hw8⟩
      have hz := Z5.out
      have hbz := HB0.out
      have h1 := HM.out (fun k => M k ∨ k = b0 + 3) (fun b hb => by
        rcases hb with hb | hb
        · have := hM b hb; omega
        · omega)
      exact ((h1.below HB7.out).step (hs8.wide (fun k hk => .inr hk))).wide (fun k hk => .inl hk)
    clear hb7 K37 x0 x1 y0 y1 v0 v1 r0 r1 rf
    by_cases hs : t.canon.nodes.length ≤ 4096
    · have hlim : lim (.agg #[.slice sa t.canon.nodes.length sc, .int .i64 t.canon.root]) t.canon.nodes.length = .tuple #[.agg #[.slice sa t.canon.nodes.length sc, .int .i64 t.canon.root], .int .i64 0] := by unfold lim; rw [if_pos hs]
      have HLIM := Lib.hid hlim
      rw [hlim]
      clear hlim hs
      go_wp2_with (fail)
      obtain ⟨w8, e8, P8, Q8, S8⟩ := put2 (w0 := w) (c0 := .slice sa t.canon.nodes.length sc) (c1 := .int .i64 t.canon.root) K37h.out B7.out (by have := HB0.out; omega)
      rw [e8]
      obtain ⟨u0, u1⟩ := box2 P8
      refine bodyPost_ret (v := .tuple #[.agg #[.slice sa t.canon.nodes.length sc, .int .i64 t.canon.root], .int .i64 0]) (by simp [results, Try.results26, go_sem, u0, u1]) rfl ?_
      rw [← HLIM.out]
      first | exact FIN.out (.bool true) (.bool true) w8 Q8 S8 | (rw [← HB0.out]; exact FIN.out (.bool true) (.bool true) w8 Q8 S8)
    · have hlim : lim (.agg #[.slice sa t.canon.nodes.length sc, .int .i64 t.canon.root]) t.canon.nodes.length = .tuple #[.agg dg0, .int .i64 2] := by unfold lim; rw [if_neg hs]
      have HLIM := Lib.hid hlim
      rw [hlim]
      clear hlim hs
      go_wp2_with (fail)
      obtain ⟨w8, e8, P8, Q8, S8⟩ := put2 (w0 := w) (c0 := .slice none 0 0) (c1 := .int .i64 0) K37h.out B7.out (by have := HB0.out; omega)
      rw [e8]
      obtain ⟨u0, u1⟩ := box2 P8
      refine bodyPost_ret (v := .tuple #[.agg dg0, .int .i64 2]) (by simp [results, Try.results26, go_sem, u0, u1]) rfl ?_
      rw [← HLIM.out]
      first | exact FIN.out (.bool true) (.bool true) w8 Q8 S8 | (rw [← HB0.out]; exact FIN.out (.bool true) (.bool true) w8 Q8 S8)
  · obtain ⟨c, hcq⟩ : ∃ c, err3 Da Db Dc = c := ⟨_, rfl⟩
    rw [hcq] at hc ⊢
    have hne : (c != 0) = true := by simpa using hc
    have HC := Lib.hid hc; have HQ := Lib.hid hcq
    clear hcq hc
    go_wp2_with (fail)
    obtain ⟨w6, e6, P6, Q6, -⟩ := put2 (w0 := w) (c0 := .slice none 0 0) (c1 := .int .i64 0) K3h.out B5.out (by have := HB0.out; omega)
    rw [e6]
    obtain ⟨u0, u1⟩ := box2 P6
    refine bodyPost_ret (v := .tuple #[.agg dg0, .int .i64 c]) (by simp [results, Try.results26, go_sem, u0, u1]) rfl ?_
    exact ⟨⟨fun _ => by rw [HQ.out], fun h => absurd (HQ.out.symm.trans h) HC.out⟩, by first | exact Q6 | (rw [← HB0.out]; exact Q6)⟩

end Go.Proofs.Ytohmibmakelclaa

namespace Go.Proofs.Ytohmibmakelclaa
set_option linter.unusedVariables false
set_option linter.unusedSimpArgs false
open Go.RowKit

theorem canon_leaf (b : Bool) : (T.leaf b).canon = ⟨[], if b then 1 else 0⟩ := by cases b <;> rfl

set_option maxRecDepth 100000 in
set_option maxHeartbeats 400000 in
theorem constant_any (w : World) (b : Bool) :
    Calls Try.prog 17 #[.bool b] w fun e w' => ∃ r, e = .returned r ∧ (∀ M : Nat → Prop, DgAt w' M r (T.leaf b).canon) ∧ Below w.heap.size w w' := by
  obtain ⟨w0, b0, e0, hb0, z0, h0, B0⟩ := laid w dg0 28
  have BW : Hid (Below w.heap.size w w0) := B0
  obtain ⟨s0, s1⟩ := box2 (r := 0) (S := .slice none 0 0) h0
  have sf := frozen_box h0
  have K := Lib.hid h0; have HB0 := Lib.hid hb0
  clear h0 B0
  cases b
  · go_enter Try.func17, Try.ntmps17
    go_wp2_with (fail)
    obtain ⟨w8, e8, P8, Q8, S8⟩ := put2 (w0 := w) (c0 := .slice none 0 0) (c1 := .int .i64 0) K.out BW.out (by have := HB0.out; omega)
    rw [e8]
    obtain ⟨u0, u1⟩ := box2 P8
    refine bodyPost_ret (v := .agg #[.slice none 0 0, .int .i64 0]) (by simp [results, Try.results17, go_sem, u0, u1]) rfl ?_
    refine ⟨_, rfl, fun M => ?_, by first | exact Q8 | (rw [← HB0.out]; exact Q8)⟩
    rw [canon_leaf]
    exact ⟨⟨(fun b hb => by cases hb), ⟨by decide, by decide⟩⟩, _, rfl, Brs.nil _ M⟩
  · go_enter Try.func17, Try.ntmps17
    go_wp2_with (fail)
    obtain ⟨w8, e8, P8, Q8, S8⟩ := put2 (w0 := w) (c0 := .slice none 0 0) (c1 := .int .i64 1) K.out BW.out (by have := HB0.out; omega)
    rw [e8]
    obtain ⟨u0, u1⟩ := box2 P8
    refine bodyPost_ret (v := .agg #[.slice none 0 0, .int .i64 1]) (by simp [results, Try.results17, go_sem, u0, u1]) rfl ?_
    refine ⟨_, rfl, fun M => ?_, by first | exact Q8 | (rw [← HB0.out]; exact Q8)⟩
    rw [canon_leaf]
    exact ⟨⟨(fun b hb => by cases hb), ⟨by decide, by decide⟩⟩, _, rfl, Brs.nil _ M⟩

end Go.Proofs.Ytohmibmakelclaa

namespace Go.Proofs.Ytohmibmakelclaa
set_option linter.unusedVariables false
set_option linter.unusedSimpArgs false
open Go.RowKit

/-- The tree of one condition. -/
abbrev litT (v : Nat) : T := .node v (.leaf false) (.leaf true)
theorem canon_lit (v : Nat) : (litT v).canon = ⟨[⟨v, 0, 1⟩], 2⟩ := by
  simp [T.canon, T.visit, table, brOf, idx]
theorem litT_ok {v : Nat} (hv : v ≤ 63) : (litT v).Ok := ⟨by omega, by show v < 64; omega, by show v < 64; omega, by simp, trivial, trivial⟩

set_option maxRecDepth 100000 in
set_option maxHeartbeats 400000 in
theorem var_any (w : World) (v : Nat) (hv : v ≤ 63) :
    Calls Try.prog 35 #[.int .i64 (v : Int)] w fun e w' => ∃ r, e = .returned (.tuple #[r, .int .i64 0]) ∧ (∀ M : Nat → Prop, (∀ b, M b → b < w.heap.size) → DgAt w' M r (litT v).canon) ∧ Below w.heap.size w w' := by
  obtain ⟨w0, b0, e0, hb0, z0, h0, B0⟩ := laid w dg0 28
  obtain ⟨w1, b1, e1, hb1, z1, h1, B1⟩ := laid w0 (br3 v 0 1) 44
  obtain rfl : b1 = b0 + 1 := by omega
  clear hb1
  have BW : Hid (Below w.heap.size w w1) := B0.trans (B1.mono B0.size)
  have h0' := heap_below B1 h0
  obtain ⟨s0, s1⟩ := box2 (r := 0) (S := .slice none 0 0) h0'
  have sf := frozen_box h0'
  have K := Lib.hid h0'; have K1 := Lib.hid h1; have HB0 := Lib.hid hb0; have Z1 := Lib.hid z1
  have hv0 : (v : Int) ≤ 63 := by omega
  have HV := Lib.hid hv
  clear h0 h0' h1 B0 B1 hv
  go_enter Try.func35, Try.ntmps35
  go_wp2_with (fail)
  obtain ⟨w8, e8, P8, Q8, S8⟩ := put2 (w0 := w) (c0 := .slice (some ⟨b0 + 1, 0, none⟩) 1 1) (c1 := .int .i64 2) K.out BW.out (by have := HB0.out; omega)
  rw [e8]
  obtain ⟨u0, u1⟩ := box2 P8
  refine bodyPost_ret (v := .tuple #[.agg #[.slice (some ⟨b0 + 1, 0, none⟩) 1 1, .int .i64 2], .int .i64 0]) (by simp [results, Try.results35, go_sem, u0, u1]) rfl ?_
  refine ⟨_, rfl, fun M hM => ?_, by first | exact Q8 | (rw [← HB0.out]; exact Q8)⟩
  have hbz := HB0.out
  have k8 : w8.heap[b0 + 1]? = some (.cells (br3 v 0 1) 44 (0, 0)) := (S8.block (b0 + 1) (by have := Z1.out; omega) (by omega)).trans K1.out
  have lt8 : b0 + 1 < w8.heap.size := by rw [Array.getElem?_eq_some_iff] at k8; exact k8.1
  rw [canon_lit]
  refine ⟨⟨fun b hb => ?_, ⟨by simp, by simp⟩⟩, _, rfl, some ⟨b0 + 1, 0, none⟩, 1, rfl, by simp, by decide, fun h => (nomatch h), .inr ⟨b0 + 1, 0, rfl, lt8, fun h => by have := hM _ h; omega, fun j u hu => ?_⟩⟩
  · simp only [List.mem_singleton] at hb
    subst hb
    have := HV.out
    exact ⟨⟨by simp only; omega, by simp only; omega⟩, ⟨by simp, by simp⟩, ⟨by simp, by simp⟩⟩
  · rw [Nat.zero_add, cell_of_row w8 (b0 + 1) j _ _ _ k8]
    simpa [bcells] using hu

set_option maxRecDepth 100000 in
set_option maxHeartbeats 400000 in
theorem var_bad (w : World) (v : Int) (hv : v < 0 ∨ 63 < v) :
    Calls Try.prog 35 #[.int .i64 v] w fun e w' => e = .returned (.tuple #[.agg dg0, .int .i64 1]) ∧ Below w.heap.size w w' := by
  obtain ⟨w0, b0, e0, hb0, z0, h0, B0⟩ := laid w dg0 28
  have BW : Hid (Below w.heap.size w w0) := B0
  obtain ⟨s0, s1⟩ := box2 (r := 0) (S := .slice none 0 0) h0
  have sf := frozen_box h0
  have K := Lib.hid h0; have HB0 := Lib.hid hb0
  clear h0 B0
  have hcase : v < 0 ∨ (0 ≤ v ∧ 63 < v) := by omega
  clear hv
  rcases hcase with h1 | ⟨h1, h2⟩
  all_goals
    go_enter Try.func35, Try.ntmps35
    go_wp2_with (fail)
    obtain ⟨w8, e8, P8, Q8, S8⟩ := put2 (w0 := w) (c0 := .slice none 0 0) (c1 := .int .i64 0) K.out BW.out (by have := HB0.out; omega)
    rw [e8]
    obtain ⟨u0, u1⟩ := box2 P8
    refine bodyPost_ret (v := .tuple #[.agg dg0, .int .i64 1]) (by simp [results, Try.results35, go_sem, u0, u1]) rfl ?_
    exact ⟨rfl, by first | exact Q8 | (rw [← HB0.out]; exact Q8)⟩

end Go.Proofs.Ytohmibmakelclaa

namespace Go.Proofs.Ytohmibmakelclaa
set_option linter.unusedVariables false
set_option linter.unusedSimpArgs false
open Go.RowKit

/-- A configuration's conditions. -/
def bits (c : Nat) : Nat → Bool := fun i => c.testBit i

theorem bit_of_shift (c k : Nat) (hc : c < 18446744073709551616) : (Go.bits BinOp.and IntKind.u64 ((c : Int) / 2 ^ k) 1 == 1) = c.testBit k := by
  have e : ((c : Int) / 2 ^ k) = ((c / 2 ^ k : Nat) : Int) := by push_cast; rfl
  have hle : c / 2 ^ k ≤ c := Nat.div_le_self _ _
  have h := bits_and_u64_nat (c / 2 ^ k) 1 (by omega) (by omega)
  rw [e, show (1 : Int) = ((1 : Nat) : Int) from rfl, h, Nat.and_one_is_mod, Nat.testBit_eq_decide_div_mod_eq, Bool.eq_iff_iff]
  simp only [beq_iff_eq, decide_eq_true_eq]
  omega

set_option maxRecDepth 100000 in
set_option maxHeartbeats 1000000 in
theorem holds_any (w : World) (va : Value) (Da : Dg) (ha : DgAt w NoB va Da) (c : Nat) (hc : c < 18446744073709551616) :
    Calls Try.prog 21 #[va, .int .u64 (c : Int)] w fun e w' => e = .returned (.bool (decide (code Da = 0) && Da.tree.ev (bits c))) ∧ Below w.heap.size w w' := by
  obtain ⟨aa, ca, rfl⟩ := ha.shape
  obtain ⟨w0, b0, e0, hb0, z0, h0, B0⟩ := laid w #[.slice aa Da.nodes.length ca, .int .i64 Da.root] 28
  have BW : Hid (Below w.heap.size w w0) := B0
  obtain ⟨x0, x1⟩ := box2 h0
  have K := Lib.hid h0; have HB0 := Lib.hid hb0
  have HA := Lib.hid (ha.below B0)
  clear h0 B0 ha
  go_enter Try.func21, Try.ntmps21
  go_wp2_with (fail)
  refine (check_any w0 _ Da HA.out).mono ?_
  rintro e w1 ⟨rfl, hb1⟩
  have K1 := Lib.hid (heap_below hb1 K.out)
  have B1 : Hid (Below w.heap.size w w1) := BW.out.trans (hb1.mono BW.out.size)
  have HA1 := Lib.hid (HA.out.below hb1)
  clear hb1 x0 x1 e0
  obtain ⟨x0, x1⟩ := box2 K1.out
  by_cases hcode : code Da = 0
  · rw [hcode]
    have HC : Hid (decide (code Da = 0) = true) := by show _ = _; simpa using hcode
    obtain ⟨hl, hv⟩ := code_zero hcode
    obtain ⟨a1, a2, a3, -⟩ := (valid_iff Da).1 hv
    have HW := Lib.hid a1
    obtain ⟨n0, hn0⟩ : ∃ n0 : Nat, Da.root = (n0 : Int) := ⟨Da.root.toNat, by omega⟩
    have HT : Hid (Da.tree = tr Da.nodes n0) := by show _ = _; unfold Dg.tree; rw [hn0, Int.toNat_natCast]
    have hn0l : n0 < Da.nodes.length + 2 := by omega
    clear hcode hv a1
    rw [hn0] at x1
    go_wp2_with (fail)
    have E0 : Hid ((tr Da.nodes n0).ev (bits c) = Da.tree.ev (bits c)) := by show _ = _; rw [HT.out]
    have B0 : Hid (Below w1.heap.size w1 w1) := Below.refl _ _
    go_loopw [5] (fun i wr => ∃ n : Nat, n < Da.nodes.length + 2 ∧ i = .int .i64 n ∧ Hid ((tr Da.nodes n).ev (bits c) = Da.tree.ev (bits c)) ∧ Hid (Below w1.heap.size w1 wr)) (fun i _ => (intOf i).toNat)
    case atStart => exact ⟨n0, hn0l, rfl, E0, B0⟩
    case round =>
      clear E0 B0 x0 x1
      obtain ⟨n, hn, rfl, ER, BR⟩ := hrel
      obtain ⟨x0, -⟩ := box2 (heap_below BR.out K1.out)
      by_cases h2 : 2 ≤ n
      · obtain ⟨i, rfl⟩ : ∃ i, n = i + 2 := ⟨n - 2, by omega⟩
        have hi : i < Da.nodes.length := by omega
        obtain ⟨b, off, rfl, -, -, c0, c1, c2⟩ := (HA1.out.below BR.out).brs.get i hi
        obtain ⟨-, -, h3⟩ := HW.out.stands (n := i + 2) (by omega)
        obtain ⟨x, hx, e, l1, l2, p1, p2, p3, p4, -⟩ := h3 (by omega)
        rw [show i + 2 - 2 = i by omega, List.getElem?_eq_getElem hi] at hx
        obtain rfl : Da.nodes[i] = x := by simpa using hx
        obtain ⟨x, hxq⟩ : ∃ x, Da.nodes[i] = x := ⟨_, rfl⟩
        rw [hxq] at c0 c1 c2 e l1 l2 p1 p2 p3 p4
        obtain ⟨w2, bq, e2, hbq, hsz2, h2', hb2⟩ := laid wr (br3 x.v x.l x.h) 44
        obtain ⟨y0, y1, y2⟩ := box3 h2'
        have B2 : Hid (Below w1.heap.size w1 w2) := BR.out.trans (hb2.mono BR.out.size)
        have HE := Lib.hid e
        have hi0 : (0 : Int) ≤ (i : Int) := by omega
        have hi1 : (i : Int) < (Da.nodes.length : Int) := by omega
        have hi2 : (Da.nodes.length : Int) ≤ 4096 := by omega
        obtain ⟨m, hm⟩ : ∃ m : Int, ((i + 2 : Nat) : Int) = m := ⟨_, rfl⟩
        have hm2 : m = (i : Int) + 2 := by omega
        subst hm2
        rw [hm]
        clear hx hxq e h2' hb2 h3
        go_wp2_with (with_reducible refine wpList_store_last rfl 44 (.tmp 6) (.tmp 19) rfl (br3 0 0 0) (br3 x.v x.l x.h) rfl rfl sizebr rfl (br3_one _ _ _) ?_)
        · rename_i hbit
          rw [bit_of_shift _ _ hc] at hbit
          go_roundw
          case rel =>
            refine ⟨x.h.toNat, by omega, by rw [Int.toNat_of_nonneg p2], ?_, B2⟩
            show _ = _
            rw [← ER.out, HE.out]
            simp only [T.ev]
            rw [if_pos (by unfold bits; exact hbit)]
          case measure => simp [intOf]; omega
        · rename_i hbit
          rw [bit_of_shift _ _ hc] at hbit
          go_roundw
          case rel =>
            refine ⟨x.l.toNat, by omega, by rw [Int.toNat_of_nonneg p1], ?_, B2⟩
            show _ = _
            rw [← ER.out, HE.out]
            simp only [T.ev]
            rw [if_neg (by unfold bits; rw [hbit]; simp)]
          case measure => simp [intOf]; omega
      · have hcase : n = 0 ∨ n = 1 := by omega
        have B2 : Hid (Below w.heap.size w wr) := B1.out.trans (BR.out.mono B1.out.size)
        rcases hcase with rfl | rfl
        · have HR : Hid (Da.tree.ev (bits c) = false) := by show _ = _; rw [← ER.out, tr_zero]; rfl
          go_wp2_with (fail)
          go_ret
          exact ⟨by rw [HC.out, HR.out]; rfl, B2.out⟩
        · have HR : Hid (Da.tree.ev (bits c) = true) := by show _ = _; rw [← ER.out, tr_one]; rfl
          go_wp2_with (fail)
          go_ret
          exact ⟨by rw [HC.out, HR.out]; rfl, B2.out⟩
  · obtain ⟨x, hx⟩ : ∃ x, code Da = x := ⟨_, rfl⟩
    have HC : Hid (decide (code Da = 0) = false) := by show _ = _; simpa using hcode
    rw [hx] at hcode ⊢
    have hne : (x != 0) = true := by simpa using hcode
    clear hx hcode
    go_wp2_with (fail)
    go_ret
    exact ⟨by first | (rw [HC.out]; rfl) | rfl, B1.out⟩

end Go.Proofs.Ytohmibmakelclaa
