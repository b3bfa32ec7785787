/-
  The statements' own functions: size, made, literal, is; the reference's Same.
  No condition.
-/
import Derived.Test.YtohmibmakelclaaPkP
import Derived.Test.YtohmibmakelclaaPkI
import Derived.Test.YtohmibmakelclaaPkJ
import Derived.Test.YtohmibmakelclaaPkL
namespace Go.Proofs.Ytohmibmakelclaa
set_option linter.unusedVariables false
set_option linter.unusedSimpArgs false
open Go.RowKit

set_option maxRecDepth 100000 in
set_option maxHeartbeats 1000000 in
theorem rsame_any (w : World) (v u : Value) (D E : Dg) (hv : DgAt w NoB v D) (hu : DgAt w NoB u E) :
    Calls Try.prog 42 #[v, u] w fun e w' => e = .returned (.bool (decide (D = E))) ∧ Below w.heap.size w w' := by
  obtain ⟨a, c, rfl⟩ := hv.shape
  obtain ⟨a', c', rfl⟩ := hu.shape
  have h1 := hv.brs.len
  have h2 := hu.brs.len
  have hl1 : D.nodes.length ≤ 9223372036854775807 := by have := h1.1; have := h1.2.1; unfold maxLen at *; omega
  have hl2 : E.nodes.length ≤ 9223372036854775807 := by have := h2.1; have := h2.2.1; unfold maxLen at *; omega
  obtain ⟨w0, b0, e0, hb0, z0, h0, B0⟩ := laid w #[.slice a D.nodes.length c, .int .i64 D.root] 28
  obtain ⟨w1, b1, e1, hb1, z1, h1', B1⟩ := laid w0 #[.slice a' E.nodes.length c', .int .i64 E.root] 28
  obtain rfl : b1 = b0 + 1 := by omega
  clear hb1 h1 h2
  have BW : Hid (Below w.heap.size w w1) := B0.trans (B1.mono B0.size)
  have K0 := Lib.hid (heap_below B1 h0); have K1 := Lib.hid h1'; have HB0 := Lib.hid hb0
  have HV := Lib.hid (hv.below BW.out); have HU := Lib.hid (hu.below BW.out)
  obtain ⟨x0, x1⟩ := box2 K0.out
  obtain ⟨y0, y1⟩ := box2 K1.out
  clear h0 h1' B0 B1 hv hu
  by_cases hr : D.root = E.root
  · by_cases hl : D.nodes.length = E.nodes.length
    · have HR := Lib.hid hr; have HL := Lib.hid hl
      rw [← hr] at y1 e1 ⊢
      rw [← hl] at y0 e1 ⊢
      have RT : Hid (D.nodes.take 0 = E.nodes.take 0) := rfl
      have BR0 : Hid (Below w1.heap.size w1 w1) := Below.refl _ _
      clear hr hl
      go_enter Try.func42, Try.ntmps42
      go_wp2_with (fail)
      go_loopw [5] (fun i wr => ∃ j : Nat, j ≤ D.nodes.length ∧ i = .int .i64 j ∧ Hid (D.nodes.take j = E.nodes.take j) ∧ Hid (Below w1.heap.size w1 wr)) (fun i _ => D.nodes.length - (intOf i).toNat)
      case atStart => exact ⟨0, Nat.zero_le _, rfl, RT, BR0⟩
      case round =>
        clear RT BR0 x0 x1 y0 y1
        obtain ⟨j, hj, rfl, RT, BR⟩ := hrel
        obtain ⟨x0, x1⟩ := box2 (heap_below BR.out K0.out)
        have y0 : wr.cell? ⟨b0 + 1, 0, none⟩ = some (.slice a' D.nodes.length c') := by have := (box2 (heap_below BR.out K1.out)).1; rw [← HL.out] at this; exact this
        by_cases hlt : j < D.nodes.length
        · obtain ⟨b, off, rfl, -, -, c0, c1, c2⟩ := (HV.out.below BR.out).brs.get j hlt
          have hlt' : j < E.nodes.length := by have := HL.out; omega
          obtain ⟨b', off', e', -, -, d0, d1, d2⟩ := (HU.out.below BR.out).brs.get j hlt'
          subst e'
          have hj0 : (0 : Int) ≤ (j : Int) := by omega
          have hj1 : (j : Int) < (D.nodes.length : Int) := by omega
          obtain ⟨x, hx⟩ : ∃ x, D.nodes[j] = x := ⟨_, rfl⟩
          obtain ⟨y, hy⟩ : ∃ y, E.nodes[j] = y := ⟨_, rfl⟩
          rw [hx] at c0 c1 c2
          rw [hy] at d0 d1 d2
          have HX := Lib.hid hx; have HY := Lib.hid hy
          clear hx hy
          by_cases hxy : x = y
          · have RT' : Hid (D.nodes.take (j + 1) = E.nodes.take (j + 1)) := by
              show _ = _
              rw [take_snoc' _ _ hlt, take_snoc' _ _ hlt', RT.out, HX.out, HY.out, hxy]
            subst hxy
            go_wp2_with (fail)
            go_quiet (fail)
            have BR' := Lib.hid (below_drewN BR.out nq)
            go_wp2_with (fail)
            go_roundw
            case rel => exact ⟨j + 1, by omega, by go_num, RT', BR'⟩
            case measure => simp [intOf]; omega
          · have e2 : Hid (decide (D = E) = false) := by
              show _ = _
              rw [decide_eq_false_iff_not]; intro h; apply hxy; rw [← HX.out, ← HY.out]; simp only [h]
            have hcase : x.v ≠ y.v ∨ (x.v = y.v ∧ x.l ≠ y.l) ∨ (x.v = y.v ∧ x.l = y.l ∧ x.h ≠ y.h) := by
              by_cases h1 : x.v = y.v
              · by_cases h2 : x.l = y.l
                · refine .inr (.inr ⟨h1, h2, fun h3 => hxy ?_⟩)
                  cases x; cases y; simp only [Br.mk.injEq]; exact ⟨h1, h2, h3⟩
                · exact .inr (.inl ⟨h1, h2⟩)
              · exact .inl h1
            clear hxy HX HY
            rcases hcase with h1 | ⟨h0, h1⟩ | ⟨h0, h0', h1⟩
            all_goals
              go_wp2_with (fail)
              go_quiet (fail)
              have BF := Lib.hid (BW.out.trans ((below_drewN BR.out nq).mono BW.out.size))
              go_wp2_with (fail)
              go_ret
              exact ⟨by (rw [e2.out]; try rfl), by first | exact BF.out | (rw [← HB0.out]; exact BF.out)⟩
        · obtain rfl : j = D.nodes.length := by omega
          have e2 : Hid (decide (D = E) = true) := by
            show _ = _
            rw [decide_eq_true_iff]
            have h1 := RT.out
            rw [List.take_length, HL.out, List.take_length] at h1
            have h2 := HR.out
            cases D; cases E
            simp only [Dg.mk.injEq]
            exact ⟨h1, h2⟩
          have BF := Lib.hid (BW.out.trans (BR.out.mono BW.out.size))
          go_wp2_with (fail)
          go_ret
          exact ⟨by (rw [e2.out]; try rfl), by first | exact BF.out | (rw [← HB0.out]; exact BF.out)⟩
    · have e2 : Hid (decide (D = E) = false) := by
        show _ = _
        rw [decide_eq_false_iff_not]; intro h; exact hl (by rw [h])
      have e3 : ((D.nodes.length : Int) != (E.nodes.length : Int)) = true := by simp; omega
      rw [← hr] at y1 e1 ⊢
      clear hl hr
      go_enter Try.func42, Try.ntmps42
      go_wp2_with (fail)
      go_ret
      exact ⟨by (rw [e2.out]; try rfl), by first | exact BW.out | (rw [← HB0.out]; exact BW.out)⟩
  · have e2 : Hid (decide (D = E) = false) := by
      show _ = _
      rw [decide_eq_false_iff_not]; intro h; exact hr (by rw [h])
    have e3 : (D.root != E.root) = true := by simpa using hr
    clear hr
    go_enter Try.func42, Try.ntmps42
    go_wp2_with (fail)
    go_ret
    exact ⟨by (rw [e2.out]; try rfl), by first | exact BW.out | (rw [← HB0.out]; exact BW.out)⟩

set_option maxRecDepth 100000 in
set_option maxHeartbeats 400000 in
theorem is_any (w : World) (v : Value) (D : Dg) (hv : DgAt w NoB v D) (root : Int) (u : Value) (E : Dg) (hr : E.root = root) (hu : DgAt w NoB (.agg #[u, .int .i64 root]) E) :
    Calls Try.prog 58 #[v, .int .i64 root, u] w fun e w' => e = .returned (.bool (decide (D = E))) ∧ Below w.heap.size w w' := by
  obtain ⟨a, c, rfl⟩ := hv.shape
  obtain ⟨a', c', hu'⟩ := hu.shape
  obtain rfl : u = .slice a' E.nodes.length c' := by simp at hu'; exact hu'.1
  clear hu'
  obtain ⟨w0, b0, e0, hb0, z0, h0, B0⟩ := laid w #[.slice a D.nodes.length c, .int .i64 D.root] 28
  obtain ⟨x0, x1⟩ := box2 h0
  have BW := Lib.hid B0; have HB0 := Lib.hid hb0
  have S := Lib.hid (rsame_any w0 _ _ D E (hv.below B0) (hu.below B0))
  clear h0 B0 hv hu
  go_enter Try.func58, Try.ntmps58
  go_wp2_with (fail)
  refine S.out.mono ?_
  rintro e w1 ⟨rfl, hb1⟩
  have BF := Lib.hid (BW.out.trans (hb1.mono BW.out.size))
  clear hb1
  go_wp2_with (fail)
  go_ret
  exact ⟨rfl, by first | exact BF.out | (rw [← HB0.out]; exact BF.out)⟩

/-- A set as a value: its table, and a number. -/
def SetAt (w : World) (v : Value) (xs : List Int) (N : Nat) : Prop := ∃ S, v = .agg #[S, .int .u8 (N : Int)] ∧ Bytes w NoB S xs ∧ N < 256
theorem SetAt.below {w w' : World} {v : Value} {xs : List Int} {N : Nat} (h : SetAt w v xs N) (hb : Below w.heap.size w w') : SetAt w' v xs N := by
  obtain ⟨S, e, h1, h2⟩ := h
  exact ⟨S, e, h1.step (Step.of_below hb NoB), h2⟩
theorem SetAt.shape {w : World} {v : Value} {xs : List Int} {N : Nat} (h : SetAt w v xs N) : ∃ a c, v = .agg #[.slice a xs.length c, .int .u8 (N : Int)] := by
  obtain ⟨S, rfl, ⟨a, c, e, -⟩, -⟩ := h
  exact ⟨a, c, by rw [e]⟩
theorem SetAt.bytes {w : World} {S : Value} {m : Int} {xs : List Int} {N : Nat} (h : SetAt w (.agg #[S, .int .u8 m]) xs N) : Bytes w NoB S xs := by
  obtain ⟨S', e, h1, -⟩ := h
  cases e; exact h1

/-- A value's two cells. -/
theorem box2v {w0 : World} {b : Nat} {x y : Value} {t : TypeId} (h : w0.heap[b]? = some (.cells #[x, y] t (0, 0))) : w0.cell? ⟨b, 0, none⟩ = some x ∧ w0.cell? ⟨b, 1, none⟩ = some y :=
  ⟨by rw [cell_of_row w0 b 0 _ _ _ h]; rfl, by rw [cell_of_row w0 b 1 _ _ _ h]; rfl⟩

set_option maxRecDepth 100000 in
set_option maxHeartbeats 400000 in
theorem size_any (w : World) (S : Value) (a : Option Addr) (n c : Nat) (hS : S = .slice a n c) (N : Nat) (hN : N < 256) :
    Calls Try.prog 18 #[.agg #[S, .int .u8 (N : Int)]] w fun e w' => e = .returned (.int .i64 ((N % 7 : Nat) : Int)) ∧ Below w.heap.size w w' := by
  subst hS
  obtain ⟨w0, b0, e0, hb0, z0, h0, B0⟩ := laid w #[.slice a n c, .int .u8 (N : Int)] 24
  obtain ⟨x0, x1⟩ := box2v h0
  have BW := Lib.hid B0; have HB0 := Lib.hid hb0
  have hN0 : (0 : Int) ≤ (N : Int) := by omega
  have hN1 : (N : Int) < 256 := by omega
  clear h0 B0
  go_enter Try.func18, Try.ntmps18
  go_wp2_with (fail)
  go_ret
  exact ⟨by first | rfl | (simp; done), by first | exact BW.out | (rw [← HB0.out]; exact BW.out)⟩

/-- A set over n conditions, of at most 63 branches. -/
def SetOf (w w' : World) (e : Ending) (n : Nat) : Prop :=
  ∃ (a : Option Addr) (c : Nat) (t : T), e = .returned (.agg #[.slice a t.canon.nodes.length c, .int .i64 t.canon.root]) ∧ t.Ok ∧ t.bel n ∧ ∀ M : Nat → Prop, (∀ b, M b → b < w.heap.size) → DgAt w' M (.agg #[.slice a t.canon.nodes.length c, .int .i64 t.canon.root]) t.canon

set_option maxRecDepth 100000 in
set_option maxHeartbeats 1000000 in
theorem lmade_any (w : World) (v : Value) (xs : List Int) (N : Nat) (hs : SetAt w v xs N) :
    Calls Try.prog 16 #[v] w fun e w' => SetOf w w' e (N % 7) ∧ Below w.heap.size w w' := by
  obtain ⟨a, c, rfl⟩ := hs.shape
  have hN : N < 256 := hs.choose_spec.2.2
  obtain ⟨w0, b0, e0, hb0, z0, h0, B0⟩ := laid w #[.slice a xs.length c, .int .u8 (N : Int)] 24
  obtain ⟨w2, b2, e2, hb2, z2, h2, B2⟩ := laid w0 dg0 28
  obtain rfl : b2 = b0 + 1 := by omega
  replace z2 : w2.heap.size = b0 + 2 := by omega
  clear hb2
  have BW : Hid (Below w.heap.size w w2) := B0.trans (B2.mono B0.size)
  have K0 : Hid (w2.drew.heap[b0]? = some (.cells #[.slice a xs.length c, .int .u8 (N : Int)] 24 (0, 0))) := heap_below B2 h0
  have K2 : Hid (w2.drew.heap[b0 + 1]? = some (.cells dg0 28 (0, 0))) := h2
  have BWd : Hid (Below w.heap.size w w2.drew) := BW.out.drew
  have HB0 := Lib.hid hb0; have HZ2 := Lib.hid z2; have HS := Lib.hid hs
  clear h0 h2 B0 B2 hs
  go_enter Try.func16, Try.ntmps16
  go_wp2_with (fail)
  refine wp_region_held_drew (S := fun w' => w'.cell? ⟨b0, 0, none⟩ = some (.slice a xs.length c) ∧ w'.cell? ⟨b0, 1, none⟩ = some (.int .u8 (N : Int))) (by kernel_rfl) (box2v K0.out) (fun hS => ?_)
  refine wpAnyH_take (i := 0) (v := (.pointer (some ⟨b0, 0, none⟩))) rfl (by kernel_rfl) (by kernel_rfl) (by kernel_rfl) (fun _ _ _ h => h) (Or.inl ⟨by rfl, ?_⟩) hS ?_
  · intro w hSw
    go_split_ands
    go_simp
  try simp only [Act.put, List.getElem_toArray, List.getElem_cons_zero, List.getElem_cons_succ, List.setIfInBounds_toArray, List.set_cons_zero, List.set_cons_succ]
  refine wpAnyH_take (i := 1) (v := (.slice a xs.length c)) rfl (by kernel_rfl) (by kernel_rfl) (by kernel_rfl) (fun _ _ _ h => h) (Or.inl ⟨by rfl, ?_⟩) hS ?_
  · intro w hSw
    go_split_ands
    go_simp
  try simp only [Act.put, List.getElem_toArray, List.getElem_cons_zero, List.getElem_cons_succ, List.setIfInBounds_toArray, List.set_cons_zero, List.set_cons_succ]
  refine wpAnyH_take (i := 2) (v := (.agg #[.slice a xs.length c, .int .u8 (N : Int)])) rfl (by kernel_rfl) (by kernel_rfl) (by kernel_rfl) (fun _ _ _ h => h) (Or.inl ⟨by rfl, ?_⟩) hS ?_
  · intro w hSw
    go_split_ands
    go_simp
  try simp only [Act.put, List.getElem_toArray, List.getElem_cons_zero, List.getElem_cons_succ, List.setIfInBounds_toArray, List.set_cons_zero, List.set_cons_succ]
  refine wpAnyH_ready (rs := [3]) (by kernel_rfl) (by simp) ?_
  refine AllReadyH.cons rfl (fun K hK => ?_) AllReadyH.nil
  try simp only [Act.put, List.getElem_toArray, List.getElem_cons_zero, List.getElem_cons_succ, List.setIfInBounds_toArray, List.set_cons_zero, List.set_cons_succ]
  go_simp
  refine (size_any w2.drew _ a xs.length c rfl N hN).mono ?_
  rintro e w3 ⟨rfl, hb3⟩
  have B3 : Hid (Below w.heap.size w w3) := BWd.out.trans (hb3.mono BWd.out.size)
  have K03 := Lib.hid (heap_below hb3 K0.out); have K23 := Lib.hid (heap_below hb3 K2.out)
  have HM := Lib.hid (made_any w3 _ xs (HS.out.below B3.out).bytes (N % 7) (by omega))
  clear hb3
  refine hK.out _ _ (box2v K03.out) (fun hS => ?_)
  clear hK K
  try simp only [Act.put, List.getElem_toArray, List.getElem_cons_zero, List.getElem_cons_succ, List.setIfInBounds_toArray, List.set_cons_zero, List.set_cons_succ]
  refine wpAnyH_ready (rs := [4]) (by kernel_rfl) (by simp) ?_
  refine AllReadyH.cons rfl (fun K hK => ?_) AllReadyH.nil
  try simp only [Act.put, List.getElem_toArray, List.getElem_cons_zero, List.getElem_cons_succ, List.setIfInBounds_toArray, List.set_cons_zero, List.set_cons_succ]
  go_simp
  refine HM.out.mono ?_
  rintro e w4 ⟨⟨r, t, rfl, ok, bl, hM⟩, hb4⟩
  obtain ⟨la, lc, rfl⟩ := (hM NoB (fun b h => h.elim)).shape
  have B4 : Hid (Below w.heap.size w w4) := B3.out.trans (hb4.mono B3.out.size)
  have K04 := Lib.hid (heap_below hb4 K03.out); have K24 := Lib.hid (heap_below hb4 K23.out)
  have HMM := Lib.hid hM; have HOK := Lib.hid ok; have HBL := Lib.hid bl
  clear hb4 hM ok bl HM
  refine hK.out _ _ (box2v K04.out) (fun hS => ?_)
  clear hK K
  try simp only [Act.put, List.getElem_toArray, List.getElem_cons_zero, List.getElem_cons_succ, List.setIfInBounds_toArray, List.set_cons_zero, List.set_cons_succ]
  obtain ⟨s0, s1⟩ := box2 (r := 0) (S := .slice none 0 0) K24.out
  have sf := frozen_box K24.out
  obtain ⟨w8, e8, P8, Q8, S8⟩ := put2 (w0 := w) (c0 := .slice la t.canon.nodes.length lc) (c1 := .int .i64 t.canon.root) K24.out B4.out (by have := HB0.out; omega)
  have K08 : Hid (w8.heap[b0]? = some (.cells #[.slice a xs.length c, .int .u8 (N : Int)] 24 (0, 0))) := (S8.block b0 (by have := K04.out; rw [Array.getElem?_eq_some_iff] at this; exact this.1) (by omega)).trans K04.out
  have HP8 := Lib.hid P8; have HQ8 := Lib.hid Q8; have HS8 := Lib.hid S8
  clear P8 Q8 S8
  refine wpAnyH_ready (rs := [5]) (by kernel_rfl) (by simp) ?_
  refine AllReadyH.cons rfl (fun K hK => ?_) AllReadyH.nil
  try simp only [Act.put, List.getElem_toArray, List.getElem_cons_zero, List.getElem_cons_succ, List.setIfInBounds_toArray, List.set_cons_zero, List.set_cons_succ]
  go_simp
  refine hK.out _ _ (box2v K08.out) (fun hS => ?_)
  clear hK K
  try simp only [Act.put, List.getElem_toArray, List.getElem_cons_zero, List.getElem_cons_succ, List.setIfInBounds_toArray, List.set_cons_zero, List.set_cons_succ]
  refine wpAnyH_done (by kernel_rfl) ?_ _
  try simp only [Act.put, List.getElem_toArray, List.getElem_cons_zero, List.getElem_cons_succ, List.setIfInBounds_toArray, List.set_cons_zero, List.set_cons_succ]
  clear hS e8 s0 s1 sf
  obtain ⟨u0, u1⟩ := box2 HP8.out
  go_wp2_with (fail)
  refine bodyPost_ret (v := .agg #[.slice la t.canon.nodes.length lc, .int .i64 t.canon.root]) (by simp [results, Try.results16, go_sem, u0, u1]) rfl ?_
  refine ⟨⟨la, lc, t, rfl, HOK.out, HBL.out, fun M hM => ?_⟩, by first | exact HQ8.out | (rw [← HB0.out]; exact HQ8.out)⟩
  have h1 := HMM.out (fun k => M k ∨ k = b0 + 1) (fun b hb => by
    rcases hb with hb | hb
    · have := hM b hb; have := B3.out.size; omega
    · have := K23.out; rw [Array.getElem?_eq_some_iff] at this; rw [hb]; exact this.1)
  exact (h1.step (HS8.out.wide (fun k hk => .inr hk))).wide (fun k hk => .inl hk)

end Go.Proofs.Ytohmibmakelclaa

namespace Go.Proofs.Ytohmibmakelclaa
set_option linter.unusedVariables false
set_option linter.unusedSimpArgs false
open Go.RowKit

/-- The value of a tree's diagram. -/
abbrev dval (a : Option Addr) (c : Nat) (t : T) : Value := .agg #[.slice a t.canon.nodes.length c, .int .i64 t.canon.root]
/-- A value is a tree's diagram. -/
structure TD (w : World) (v : Value) (t : T) : Prop where
  at' : DgAt w NoB v t.canon
  ok : t.Ok
  len : t.canon.nodes.length ≤ 4096
theorem TD.below {w w' : World} {v : Value} {t : T} (h : TD w v t) (hb : Below w.heap.size w w') : TD w' v t := ⟨h.at'.below hb, h.ok, h.len⟩
theorem TD.code {w : World} {v : Value} {t : T} (h : TD w v t) : code t.canon = 0 := code_ok h.len h.ok.valid

/-- A set's diagrams are not too large. -/
def Few (f : (Nat → Bool) → Bool) : Prop := ∀ t : T, t.Ok → (∀ x, t.ev x = f x) → t.canon.nodes.length ≤ 4096
theorem few_of_dep {f : (Nat → Bool) → Bool} (h : Dep 6 f) : Few f := fun t ok he => Nat.le_trans (ok.small (T.bel_of_dep ok (by rw [show t.ev = f from funext he]; exact h)) (Nat.le_refl 6)) (by decide)
theorem few_of_tree {f : (Nat → Bool) → Bool} {t : T} (ok : t.Ok) (h : ∀ x, t.ev x = f x) (hl : t.canon.nodes.length ≤ 4096) : Few f := fun s oks he => by
  rw [T.same oks ok (fun x => (he x).trans (h x).symm)]; exact hl

/-- The diagram of a set, and no error. -/
def DgRes (w w' : World) (e : Ending) (f : (Nat → Bool) → Bool) : Prop :=
  ∃ (a : Option Addr) (c : Nat) (t : T), e = .returned (.tuple #[dval a c t, .int .i64 0]) ∧ (∀ x, t.ev x = f x) ∧ TD w' (dval a c t) t ∧ ∀ M : Nat → Prop, (∀ b, M b → b < w.heap.size) → DgAt w' M (dval a c t) t.canon

theorem Gives.res {w w' : World} {e : Ending} {c : Int} {f : (Nat → Bool) → Bool} (h : Gives w w' e c f) (hc : c = 0) (hf : Few f) : DgRes w w' e f := by
  obtain ⟨r, t, ok, ev, rfl, hM⟩ := h.2 hc
  obtain ⟨a, cc, rfl⟩ := (hM NoB (fun b h => h.elim)).shape
  have hl := hf t ok ev
  refine ⟨a, cc, t, by unfold lim; rw [if_pos hl], ev, ⟨hM NoB (fun b h => h.elim), ok, hl⟩, hM⟩
theorem DgRes.known {w w' : World} {e : Ending} {f : (Nat → Bool) → Bool} (h : DgRes w w' e f) {tt : T} (ok : tt.Ok) (ev : ∀ x, tt.ev x = f x) :
    ∃ (a : Option Addr) (c : Nat), e = .returned (.tuple #[dval a c tt, .int .i64 0]) ∧ TD w' (dval a c tt) tt ∧ ∀ M : Nat → Prop, (∀ b, M b → b < w.heap.size) → DgAt w' M (dval a c tt) tt.canon := by
  obtain ⟨a, c, t, he, hev, htd, hM⟩ := h
  obtain rfl : t = tt := T.same htd.ok ok (fun x => (hev x).trans (ev x).symm)
  exact ⟨a, c, he, htd, hM⟩

section
variable {w : World} {va vb vc : Value} {ta tb tc : T}

theorem TD.ev (h : TD w va ta) (x : Nat → Bool) : ta.canon.tree.ev x = ta.ev x := by rw [T.canon_tree h.ok]

theorem not_t (ha : TD w va ta) (hf : Few (fun x => !ta.ev x)) : Calls Try.prog 25 #[va] w fun e w' => DgRes w w' e (fun x => !ta.ev x) ∧ Below w.heap.size w w' := by
  refine (not_any w va _ ha.at').mono ?_
  rintro e w' ⟨hg, hb⟩
  have := hg.res ha.code (by rw [T.canon_tree ha.ok]; exact hf)
  rw [T.canon_tree ha.ok] at this
  exact ⟨this, hb⟩
theorem err2_t (ha : TD w va ta) (hb : TD w vb tb) : err2 ta.canon tb.canon = 0 := by unfold err2; rw [if_pos ha.code]; exact hb.code
theorem and_t (ha : TD w va ta) (hb : TD w vb tb) (hf : Few (fun x => ta.ev x && tb.ev x)) : Calls Try.prog 19 #[va, vb] w fun e w' => DgRes w w' e (fun x => ta.ev x && tb.ev x) ∧ Below w.heap.size w w' := by
  refine (and_any w va vb _ _ ha.at' hb.at').mono ?_
  rintro e w' ⟨hg, hbl⟩
  have := hg.res (err2_t ha hb) (by rw [T.canon_tree ha.ok, T.canon_tree hb.ok]; exact hf)
  rw [T.canon_tree ha.ok, T.canon_tree hb.ok] at this
  exact ⟨this, hbl⟩
theorem or_t (ha : TD w va ta) (hb : TD w vb tb) (hf : Few (fun x => ta.ev x || tb.ev x)) : Calls Try.prog 22 #[va, vb] w fun e w' => DgRes w w' e (fun x => ta.ev x || tb.ev x) ∧ Below w.heap.size w w' := by
  refine (or_any w va vb _ _ ha.at' hb.at').mono ?_
  rintro e w' ⟨hg, hbl⟩
  have := hg.res (err2_t ha hb) (by rw [T.canon_tree ha.ok, T.canon_tree hb.ok]; exact hf)
  rw [T.canon_tree ha.ok, T.canon_tree hb.ok] at this
  exact ⟨this, hbl⟩
theorem xor_t (ha : TD w va ta) (hb : TD w vb tb) (hf : Few (fun x => ta.ev x != tb.ev x)) : Calls Try.prog 33 #[va, vb] w fun e w' => DgRes w w' e (fun x => ta.ev x != tb.ev x) ∧ Below w.heap.size w w' := by
  refine (xor_any w va vb _ _ ha.at' hb.at').mono ?_
  rintro e w' ⟨hg, hbl⟩
  have := hg.res (err2_t ha hb) (by rw [T.canon_tree ha.ok, T.canon_tree hb.ok]; exact hf)
  rw [T.canon_tree ha.ok, T.canon_tree hb.ok] at this
  exact ⟨this, hbl⟩
theorem choose_t (hc : TD w vc tc) (ha : TD w va ta) (hb : TD w vb tb) (hf : Few (fun x => tc.ev x && ta.ev x || !tc.ev x && tb.ev x)) : Calls Try.prog 26 #[vc, va, vb] w fun e w' => DgRes w w' e (fun x => tc.ev x && ta.ev x || !tc.ev x && tb.ev x) ∧ Below w.heap.size w w' := by
  refine (choose_any w vc va vb _ _ _ hc.at' ha.at' hb.at').mono ?_
  rintro e w' ⟨hg, hbl⟩
  have := hg.res (by unfold err3; rw [if_pos hc.code]; exact err2_t ha hb) (by rw [T.canon_tree hc.ok, T.canon_tree ha.ok, T.canon_tree hb.ok]; exact hf)
  rw [T.canon_tree hc.ok, T.canon_tree ha.ok, T.canon_tree hb.ok] at this
  exact ⟨this, hbl⟩
theorem restrict_t (ha : TD w va ta) (v : Nat) (hv : v ≤ 63) (d : Bool) (hf : Few (fun x => ta.ev (upd x v d))) : Calls Try.prog 27 #[va, .int .i64 (v : Int), .bool d] w fun e w' => DgRes w w' e (fun x => ta.ev (upd x v d)) ∧ Below w.heap.size w w' := by
  refine (restrict_any w va _ ha.at' v d).mono ?_
  rintro e w' ⟨hg, hbl⟩
  rw [Int.toNat_natCast] at hg
  have := hg.res (errR_zero ha.code (by omega) (by omega)) (by rw [T.canon_tree ha.ok]; exact hf)
  rw [T.canon_tree ha.ok] at this
  exact ⟨this, hbl⟩
theorem exists_t (ha : TD w va ta) (v : Nat) (hv : v ≤ 63) (hf : Few (fun x => ta.ev (upd x v false) || ta.ev (upd x v true))) : Calls Try.prog 34 #[va, .int .i64 (v : Int)] w fun e w' => DgRes w w' e (fun x => ta.ev (upd x v false) || ta.ev (upd x v true)) ∧ Below w.heap.size w w' := by
  refine (exists_any w va _ ha.at' v).mono ?_
  rintro e w' ⟨hg, hbl⟩
  rw [Int.toNat_natCast] at hg
  have := hg.res (errR_zero ha.code (by omega) (by omega)) (by rw [T.canon_tree ha.ok]; exact hf)
  rw [T.canon_tree ha.ok] at this
  exact ⟨this, hbl⟩
theorem var_t (w : World) (v : Nat) (hv : v ≤ 63) : Calls Try.prog 35 #[.int .i64 (v : Int)] w fun e w' => (∃ a c, e = .returned (.tuple #[dval a c (litT v), .int .i64 0]) ∧ TD w' (dval a c (litT v)) (litT v) ∧ ∀ M : Nat → Prop, (∀ b, M b → b < w.heap.size) → DgAt w' M (dval a c (litT v)) (litT v).canon) ∧ Below w.heap.size w w' := by
  refine (var_any w v hv).mono ?_
  rintro e w' ⟨r, rfl, hM, hb⟩
  obtain ⟨a, c, rfl⟩ := (hM NoB (fun b h => h.elim)).shape
  exact ⟨⟨a, c, rfl, ⟨hM NoB (fun b h => h.elim), litT_ok hv, by rw [canon_lit]; simp⟩, hM⟩, hb⟩
theorem constant_t (w : World) (b : Bool) : Calls Try.prog 17 #[.bool b] w fun e w' => (∃ a c, e = .returned (dval a c (.leaf b)) ∧ TD w' (dval a c (.leaf b)) (.leaf b)) ∧ Below w.heap.size w w' := by
  refine (constant_any w b).mono ?_
  rintro e w' ⟨r, rfl, hM, hb⟩
  obtain ⟨a, c, rfl⟩ := (hM NoB).shape
  exact ⟨⟨a, c, rfl, hM NoB, trivial, by rw [canon_leaf]; simp⟩, hb⟩
theorem holds_t (ha : TD w va ta) (c : Nat) (hc : c < 18446744073709551616) : Calls Try.prog 21 #[va, .int .u64 (c : Int)] w fun e w' => e = .returned (.bool (ta.ev (bits c))) ∧ Below w.heap.size w w' := by
  refine (holds_any w va _ ha.at' c hc).mono ?_
  rintro e w' ⟨rfl, hb⟩
  rw [T.canon_tree ha.ok, ha.code]
  exact ⟨by simp, hb⟩
theorem check_t (ha : TD w va ta) : Calls Try.prog 23 #[va] w fun e w' => e = .returned (.int .i64 0) ∧ Below w.heap.size w w' := by
  refine (check_any w va _ ha.at').mono ?_
  rintro e w' ⟨rfl, hb⟩
  rw [ha.code]
  exact ⟨rfl, hb⟩
theorem canon_inj {s t : T} (hs : s.Ok) (ht : t.Ok) (h : s.canon = t.canon) : s = t := by rw [← T.canon_tree hs, ← T.canon_tree ht, h]
theorem same_t (ha : TD w va ta) (hb : TD w vb tb) : Calls Try.prog 24 #[va, vb] w fun e w' => e = .returned (.bool (decide (ta = tb))) ∧ Below w.heap.size w w' := by
  refine (same_any w va vb _ _ ha.at' hb.at').mono ?_
  rintro e w' ⟨rfl, hbl⟩
  have : decide (ta.canon = tb.canon) = decide (ta = tb) := by
    rw [decide_eq_decide]
    exact ⟨canon_inj ha.ok hb.ok, fun h => by rw [h]⟩
  rw [this]
  exact ⟨rfl, hbl⟩
theorem least_t (ha : TD w va ta) : Calls Try.prog 29 #[va] w fun e w' => e = .returned (.tuple #[.int .u64 ((if ta = .leaf false then 0 else ta.lst : Nat) : Int), .bool (decide (ta ≠ .leaf false))]) ∧ Below w.heap.size w w' := by
  refine (least_any w va _ ha.at').mono ?_
  rintro e w' ⟨rfl, hbl⟩
  refine ⟨?_, hbl⟩
  unfold leastOf
  rw [T.canon_tree ha.ok, ha.code]
  by_cases h : ta = .leaf false
  · subst h; simp
  · simp [h]
theorem count_t (ha : TD w va ta) (n : Nat) (hn : n ≤ 64) (hb : ta.bel n) : Calls Try.prog 28 #[va, .int .i64 (n : Int)] w fun e w' => (∃ (a : Option Addr) (c : Nat), e = .returned (.tuple #[.slice a (limbs (ta.count n)).length c, .int .i64 0]) ∧ NatAt w' NoB (.slice a (limbs (ta.count n)).length c) (ta.count n)) ∧ Below w.heap.size w w' := by
  refine (count_any w va _ ha.at' n).mono ?_
  rintro e w' ⟨hg, hbl⟩
  have hz : errC ta.canon (n : Int) = 0 := errC_zero ha.code (by omega) (by
    rintro ⟨b, hb1, hb2⟩
    have hvis : ∀ (t : T) (s : List T), t.bel n → (∀ u ∈ s, u.bel n) → ∀ u ∈ t.visit s, u.bel n := by
      intro t
      induction t with
      | leaf x => intro s _ hs; exact hs
      | node v l h ihl ihh =>
        intro s ht hs u hu
        simp only [T.visit] at hu
        split at hu
        · exact hs u hu
        · rcases List.mem_append.1 hu with hu | hu
          · exact ihh _ ht.2.2 (ihl _ ht.2.1 hs) u hu
          · simp only [List.mem_singleton] at hu; rw [hu]; exact ht
    obtain ⟨t, ht, e⟩ := List.mem_map.1 hb1
    obtain ⟨v, l, h, rfl, -⟩ := (T.canon_cl ha.ok).parts t ht
    have h1 := (hvis ta [] hb (fun u hu => by cases hu) _ ht).1
    subst e
    have h2 : (n : Int) ≤ (v : Int) := hb2
    omega)
  obtain ⟨r, rfl, hM⟩ := hg.2 hz
  rw [T.canon_tree ha.ok, Int.toNat_natCast] at hM
  obtain ⟨a, c, rfl⟩ := (hM NoB (fun b h => h.elim)).shape
  exact ⟨⟨a, c, rfl, hM NoB (fun b h => h.elim)⟩, hbl⟩
end

end Go.Proofs.Ytohmibmakelclaa

namespace Go.Proofs.Ytohmibmakelclaa
set_option linter.unusedVariables false
set_option linter.unusedSimpArgs false
open Go.RowKit

/-- The tree of a literal. -/
abbrev litB (v : Nat) (b : Bool) : T := .node v (.leaf (!b)) (.leaf b)
theorem litB_ok {v : Nat} (hv : v ≤ 63) (b : Bool) : (litB v b).Ok := ⟨by omega, by show v < 64; omega, by show v < 64; omega, by cases b <;> simp, trivial, trivial⟩
theorem litB_ev (v : Nat) (b : Bool) (x : Nat → Bool) : (litB v b).ev x = (x v == b) := by
  simp only [T.ev]
  cases x v <;> cases b <;> rfl
theorem litB_canon (v : Nat) (b : Bool) : (litB v b).canon.nodes.length = 1 := by cases b <;> simp [T.canon, T.visit, table]

set_option maxRecDepth 100000 in
set_option maxHeartbeats 1000000 in
theorem literal_t (w : World) (v : Nat) (hv : v ≤ 63) (b : Bool) :
    Calls Try.prog 20 #[.int .i64 (v : Int), .bool b] w fun e w' => (∃ a c, e = .returned (dval a c (litB v b)) ∧ TD w' (dval a c (litB v b)) (litB v b)) ∧ Below w.heap.size w w' := by
  obtain ⟨w0, b0, e0, hb0, z0, h0, B0⟩ := laid w dg0 28
  have BW := Lib.hid B0; have K := Lib.hid h0; have HB0 := Lib.hid hb0; have HZ0 := Lib.hid z0
  have HV := Lib.hid (var_t w0 v hv)
  clear h0 B0
  cases b
  · go_enter Try.func20, Try.ntmps20
    go_wp2_with (fail)
    refine HV.out.mono ?_
    rintro e w1 ⟨⟨a, c, rfl, htd, hM⟩, hb1⟩
    obtain ⟨w2, b2, e2, hb2, z2, h2, B2⟩ := laid w1 #[.slice a (litT v).canon.nodes.length c, .int .i64 (litT v).canon.root] 28
    have K2 := Lib.hid (heap_below B2 (heap_below hb1 K.out)); have X2 := Lib.hid h2
    have B12 : Hid (Below w.heap.size w w2) := BW.out.trans ((hb1.trans (B2.mono hb1.size)).mono BW.out.size)
    have HLT : Hid (b0 < b2) := by show _ < _; have := hb1.size; have := HZ0.out; omega
    have HNOT := Lib.hid (not_t (htd.below B2) (few_of_tree (t := litB v false) (litB_ok hv false) (fun x => by rw [litB_ev]; simp only [T.ev]; cases x v <;> rfl) (by rw [litB_canon]; omega)))
    obtain ⟨p0, p1⟩ := box2 h2
    clear htd hb1 h2 B2 HV
    go_wp2_with (with_reducible refine wpList_store_last rfl 28 (.tmp 5) (.tmp 10) rfl dg0 #[.slice a (litT v).canon.nodes.length c, .int .i64 (litT v).canon.root] rfl rfl sizedg rfl (by simp [Value.oneCell']) ?_)
    refine HNOT.out.mono ?_
    rintro e w3 ⟨hR, hb3⟩
    obtain ⟨a3, c3, rfl, htd, hM3⟩ := hR.known (litB_ok hv false) (fun x => by rw [litB_ev]; simp only [T.ev]; cases x v <;> rfl)
    have K3 := heap_below hb3 K2.out; have X3 := heap_below hb3 X2.out
    have B3 := B12.out.trans (hb3.mono B12.out.size)
    obtain ⟨w4, e4, P4, Q4, S4⟩ := put2 (w0 := w) (c0 := .slice a3 (litB v false).canon.nodes.length c3) (c1 := .int .i64 (litB v false).canon.root) X3 B3 (by have := HB0.out; have := HLT.out; omega)
    have K4 := (S4.block b0 (by have := K3; rw [Array.getElem?_eq_some_iff] at this; exact this.1) (by have := HLT.out; omega)).trans K3
    obtain ⟨q0, q1⟩ := box2 X3
    have qf := frozen_box X3
    obtain ⟨r0, r1⟩ := box2 P4
    obtain ⟨s0, s1⟩ := box2 (r := 0) (S := .slice none 0 0) K4
    have sf := frozen_box K4
    obtain ⟨w5, e5, P5, Q5, S5⟩ := put2 (w0 := w) (c0 := .slice a3 (litB v false).canon.nodes.length c3) (c1 := .int .i64 (litB v false).canon.root) K4 Q4 (by have := HB0.out; omega)
    have FIN : Hid (TD w5 (dval a3 c3 (litB v false)) (litB v false)) := by
      have h1 := hM3 (fun k => k = b0 ∨ k = b2) (fun k hk => by
        rcases hk with hk | hk
        · have := K2.out; rw [Array.getElem?_eq_some_iff] at this; rw [hk]; exact this.1
        · have := X2.out; rw [Array.getElem?_eq_some_iff] at this; rw [hk]; exact this.1)
      exact ⟨((h1.step (S4.wide (fun k hk => .inr hk))).step (S5.wide (fun k hk => .inl hk))).wide (fun k hk => hk.elim), htd.ok, htd.len⟩
    have HP5 := Lib.hid P5; have HQ5 := Lib.hid Q5
    clear htd hM3 hR K3 X3 B3 P4 Q4 S4 K4 P5 Q5 S5 hM HNOT hb3
    go_wp2_with (fail)
    obtain ⟨u0, u1⟩ := box2 HP5.out
    refine bodyPost_ret (v := dval a3 c3 (litB v false)) (by simp [results, Try.results20, go_sem, u0, u1]) rfl ?_
    exact ⟨⟨a3, c3, rfl, FIN.out⟩, by first | exact HQ5.out | (rw [← HB0.out]; exact HQ5.out)⟩
  · go_enter Try.func20, Try.ntmps20
    go_wp2_with (fail)
    refine HV.out.mono ?_
    rintro e w1 ⟨⟨a, c, rfl, htd, hM⟩, hb1⟩
    obtain ⟨w2, b2, e2, hb2, z2, h2, B2⟩ := laid w1 #[.slice a (litT v).canon.nodes.length c, .int .i64 (litT v).canon.root] 28
    have K2 := Lib.hid (heap_below B2 (heap_below hb1 K.out)); have X2 := Lib.hid h2
    have B12 : Hid (Below w.heap.size w w2) := BW.out.trans ((hb1.trans (B2.mono hb1.size)).mono BW.out.size)
    have HT := Lib.hid (htd.below B2)
    have HM2 : Hid (∀ M : Nat → Prop, (∀ b, M b → b < w0.heap.size) → DgAt w2 M (dval a c (litT v)) (litT v).canon) := fun M h => (hM M h).below B2
    obtain ⟨p0, p1⟩ := box2 h2
    obtain ⟨s0, s1⟩ := box2 (r := 0) (S := .slice none 0 0) K2.out
    have sf := frozen_box K2.out
    clear htd hb1 h2 B2 HV
    go_wp2_with (with_reducible refine wpList_store_last rfl 28 (.tmp 5) (.tmp 10) rfl dg0 #[.slice a (litT v).canon.nodes.length c, .int .i64 (litT v).canon.root] rfl rfl sizedg rfl (by simp [Value.oneCell']) ?_)
    obtain ⟨w5, e5, P5, Q5, S5⟩ := put2 (w0 := w) (c0 := .slice a (litT v).canon.nodes.length c) (c1 := .int .i64 (litT v).canon.root) K2.out B12.out (by have := HB0.out; omega)
    rw [e5]
    obtain ⟨u0, u1⟩ := box2 P5
    refine bodyPost_ret (v := dval a c (litT v)) (by simp [results, Try.results20, go_sem, u0, u1]) rfl ?_
    refine ⟨⟨a, c, rfl, ?_, HT.out.ok, HT.out.len⟩, by first | exact Q5 | (rw [← HB0.out]; exact Q5)⟩
    have h1 := HM2.out (fun k => k = b0) (fun k hk => by have := HZ0.out; omega)
    exact (h1.step S5).wide (fun k hk => hk.elim)

end Go.Proofs.Ytohmibmakelclaa

namespace Go.Proofs.Ytohmibmakelclaa
set_option linter.unusedVariables false
set_option linter.unusedSimpArgs false
open Go.RowKit

/-- The diagram of a block of branches. -/
theorem dg_of_block {w : World} {b : Nat} {ns : List Br} {root : Int} (h : w.heap[b]? = some (.cells (bcells ns).toArray 44 (0, 0))) (hi : (⟨ns, root⟩ : Dg).In) (hl : ns.length ≤ 100) : DgAt w NoB (.agg #[.slice (some ⟨b, 0, none⟩) ns.length ns.length, .int .i64 root]) ⟨ns, root⟩ :=
  ⟨hi, _, rfl, some ⟨b, 0, none⟩, ns.length, rfl, Nat.le_refl _, by unfold maxLen; show ns.length ≤ _; omega, (fun e => nomatch e), .inr ⟨b, 0, rfl, by rw [Array.getElem?_eq_some_iff] at h; exact h.1, fun h => h, fun j u hu => by
    rw [Nat.zero_add, cell_of_row w b j _ _ _ h]; simpa using hu⟩⟩

theorem var_bad_t (w : World) : Calls Try.prog 35 #[.int .i64 64] w fun e w' => e = .returned (.tuple #[.agg dg0, .int .i64 1]) ∧ Below w.heap.size w w' := var_bad w 64 (.inr (by omega))

abbrev sAnd : T := .node 0 (.leaf false) (litT 1)
abbrev sOr : T := .node 0 (litT 1) (.leaf true)
abbrev sXor : T := .node 0 (litT 1) (.node 1 (.leaf true) (.leaf false))
abbrev sNot : T := .node 0 (.leaf true) (.leaf false)
theorem sAnd_ok : sAnd.Ok := ⟨by omega, by decide, by decide, by simp, trivial, litT_ok (by omega)⟩
theorem sOr_ok : sOr.Ok := ⟨by omega, by decide, by decide, by simp, litT_ok (by omega), trivial⟩
theorem sXor_ok : sXor.Ok := ⟨by omega, by decide, by decide, by simp, litT_ok (by omega), by omega, by decide, by decide, by simp, trivial, trivial⟩
theorem sNot_ok : sNot.Ok := ⟨by omega, by decide, by decide, by simp, trivial, trivial⟩
theorem sAnd_ev (x : Nat → Bool) : sAnd.ev x = ((litT 0).ev x && (litT 1).ev x) := by simp only [T.ev]; cases x 0 <;> cases x 1 <;> rfl
theorem sOr_ev (x : Nat → Bool) : sOr.ev x = ((litT 0).ev x || (litT 1).ev x) := by simp only [T.ev]; cases x 0 <;> cases x 1 <;> rfl
theorem sXor_ev (x : Nat → Bool) : sXor.ev x = ((litT 0).ev x != (litT 1).ev x) := by simp only [T.ev]; cases x 0 <;> cases x 1 <;> rfl
theorem sNot_ev (x : Nat → Bool) : sNot.ev x = !(litT 0).ev x := by simp only [T.ev]; cases x 0 <;> rfl
theorem sHigh_ev (x : Nat → Bool) : (T.leaf true).ev x = sOr.ev (upd x 0 true) := by simp [T.ev, upd]
theorem sLow_ev (x : Nat → Bool) : (litT 1).ev x = sOr.ev (upd x 0 false) := by simp [T.ev, upd]
theorem sSome_ev (x : Nat → Bool) : (litT 0).ev x = (sAnd.ev (upd x 1 false) || sAnd.ev (upd x 1 true)) := by simp [T.ev, upd]
theorem few_k {f : (Nat → Bool) → Bool} (t : T) (ok : t.Ok) (h : ∀ x, t.ev x = f x) (hl : t.canon.nodes.length ≤ 4096) : Few f := few_of_tree ok h hl

/-- A diagram of small numbers fits. -/
theorem in_of (D : Dg) (h : (D.nodes.all fun b => decide (0 ≤ b.v ∧ b.v ≤ 100 ∧ 0 ≤ b.l ∧ b.l ≤ 100 ∧ 0 ≤ b.h ∧ b.h ≤ 100)) = true) (hr : 0 ≤ D.root ∧ D.root ≤ 100) : D.In := by
  refine ⟨fun b hb => ?_, ⟨by omega, by omega⟩⟩
  have := of_decide_eq_true (List.all_eq_true.1 h b hb)
  exact ⟨⟨by omega, by omega⟩, ⟨by omega, by omega⟩, ⟨by omega, by omega⟩⟩
theorem limbs_small {n : Nat} (h0 : 0 < n) (h1 : n < 4294967296) : limbs n = [n] := by
  rw [limbs_pos (by omega), show n / 4294967296 = 0 by omega, limbs_zero, Nat.mod_eq_of_lt h1]

section
variable {w : World} {va : Value} {ta : T}

theorem count_k (ha : TD w va ta) (n : Nat) (hn : n ≤ 64) (hb : ta.bel n) (m : Nat) (hm : ta.count n = m) (h0 : 0 < m) (h1 : m < 4294967296) : Calls Try.prog 28 #[va, .int .i64 (n : Int)] w fun e w' => (∃ (b off c : Nat), e = .returned (.tuple #[.slice (some ⟨b, off, none⟩) 1 c, .int .i64 0]) ∧ NatAt w' NoB (.slice (some ⟨b, off, none⟩) 1 c) m) ∧ Below w.heap.size w w' := by
  refine (count_t ha n hn hb).mono ?_
  rintro e w' ⟨⟨a, c, rfl, hN⟩, hbl⟩
  rw [hm] at hN ⊢
  have hl : (limbs m).length = 1 := by rw [limbs_small h0 h1]; rfl
  rw [hl] at hN ⊢
  obtain ⟨b, off, rfl, -⟩ := Reads.get (w := w') (M := NoB) (a := a) (n := 1) (c := c) (xs := u32s (limbs m)) (by have h : NatAt w' NoB (.slice a 1 c) m := hN; unfold NatAt at h; rw [hl] at h; exact h) (j := 0) (u := .int .u32 m) (by rw [limbs_small h0 h1]; rfl)
  exact ⟨⟨b, off, c, rfl, hN⟩, hbl⟩
theorem nat_cell {w : World} {b off c m : Nat} (h : NatAt w NoB (.slice (some ⟨b, off, none⟩) 1 c) m) (h0 : 0 < m) (h1 : m < 4294967296) : w.cell? ⟨b, off, none⟩ = some (.int .u32 (m : Int)) := by
  have hl : (limbs m).length = 1 := by rw [limbs_small h0 h1]; rfl
  unfold NatAt at h
  rw [hl] at h
  obtain ⟨b', off', e, -, -, hc⟩ := Reads.get h (j := 0) (u := .int .u32 m) (by rw [limbs_small h0 h1]; rfl)
  cases e
  simpa using hc
theorem count_err (ha : TD w va ta) (n : Nat) (hn : n ≤ 64) (h : ∃ b ∈ ta.canon.nodes, (n : Int) ≤ b.v) : Calls Try.prog 28 #[va, .int .i64 (n : Int)] w fun e w' => e = .returned (.tuple #[.slice none 0 0, .int .i64 1]) ∧ Below w.heap.size w w' := by
  refine (count_any w va _ ha.at' n).mono ?_
  rintro e w' ⟨hg, hbl⟩
  have hz : errC ta.canon (n : Int) = 1 := errC_var ha.code (by omega) h
  have := hg.1 (by rw [hz]; decide)
  rw [hz] at this
  exact ⟨this, hbl⟩
theorem least_k (ha : TD w va ta) (m : Nat) (hne : ta ≠ .leaf false) (hm : ta.lst = m) : Calls Try.prog 29 #[va] w fun e w' => e = .returned (.tuple #[.int .u64 (m : Int), .bool true]) ∧ Below w.heap.size w w' := by
  refine (least_t ha).mono ?_
  rintro e w' ⟨rfl, hbl⟩
  rw [if_neg hne, hm]
  exact ⟨by simp [hne], hbl⟩
theorem is_k (ha : TD w va ta) (root : Int) (u : Value) (E : Dg) (hr : E.root = root) (hu : DgAt w NoB (.agg #[u, .int .i64 root]) E) (he : ta.canon = E) : Calls Try.prog 58 #[va, .int .i64 root, u] w fun e w' => e = .returned (.bool true) ∧ Below w.heap.size w w' := by
  refine (is_any w va _ ha.at' root u E hr hu).mono ?_
  rintro e w' ⟨rfl, hbl⟩
  exact ⟨by simp [he], hbl⟩
theorem rsame_k {vb : Value} {tb : T} (ha : TD w va ta) (hb : TD w vb tb) (he : ta.canon = tb.canon) : Calls Try.prog 42 #[va, vb] w fun e w' => e = .returned (.bool true) ∧ Below w.heap.size w w' := by
  refine (rsame_any w va vb _ _ ha.at' hb.at').mono ?_
  rintro e w' ⟨rfl, hbl⟩
  exact ⟨by simp [he], hbl⟩
theorem check_bad {D : Dg} (ha : DgAt w NoB va D) (h : ¬ Valid D) (hl : D.nodes.length ≤ 4096) : Calls Try.prog 23 #[va] w fun e w' => e = .returned (.int .i64 20) ∧ Below w.heap.size w w' := by
  refine (check_any w va _ ha).mono ?_
  rintro e w' ⟨rfl, hbl⟩
  rw [code_bad hl h]
  exact ⟨rfl, hbl⟩
theorem holds_k (ha : TD w va ta) (c : Nat) (hc : c < 18446744073709551616) (b : Bool) (hb : ta.ev (bits c) = b) : Calls Try.prog 21 #[va, .int .u64 (c : Int)] w fun e w' => e = .returned (.bool b) ∧ Below w.heap.size w w' := by
  rw [← hb]; exact holds_t ha c hc
end
theorem DgAt.consts (w : World) (r : Int) (h : 0 ≤ r ∧ r ≤ 100) : DgAt w NoB (.agg #[.slice none 0 0, .int .i64 r]) ⟨[], r⟩ :=
  ⟨⟨(fun b hb => by cases hb), ⟨by simp only; omega, by simp only; omega⟩⟩, _, rfl, Brs.nil w _⟩
theorem bad1 : ¬ Valid ⟨[⟨0, 0, 0⟩], 2⟩ := fun h => by
  have h1 := ((valid_iff _).1 h).1
  exact ((Wf.inv (ns := []) (b := ⟨0, 0, 0⟩) h1).2.ne) rfl
theorem bad2 : ¬ Valid ⟨[⟨0, 0, 1⟩], 1⟩ := fun h => by
  have h1 := congrArg Dg.nodes ((valid_iff _).1 h).2.2.2
  have h2 : (⟨[⟨0, 0, 1⟩], 1⟩ : Dg).tree = .leaf true := rfl
  rw [h2, canon_leaf] at h1
  cases h1

set_option maxRecDepth 100000 in
set_option maxHeartbeats 8000000 in
theorem sanity_any (w : World) : Calls Try.prog 15 #[] w fun e w' => e = .returned (.bool true) ∧ Below w.heap.size w w' := by
  have BW : Hid (Below w.heap.size w w) := Below.refl _ _
  go_enter Try.func15, Try.ntmps15
  go_wp2_with (fail)
  refine (var_t w 0 (by omega)).mono ?_
  rintro e w1 ⟨⟨aX, cX, rfl, tdX, -⟩, hb1⟩
  obtain ⟨w2, bX, eX, hBX, -, hX, BX⟩ := laid w1 #[.slice aX (litT 0).canon.nodes.length cX, .int .i64 (litT 0).canon.root] 28
  have BB := hb1.trans (BX.mono hb1.size)
  replace BW := Lib.hid (BW.out.trans (BB.mono BW.out.size))
  have HX := Lib.hid hX; have DX := Lib.hid (tdX.below BX)
  clear hb1 hX BX BB tdX
  go_wp2_with (with_reducible refine wpList_store_last rfl 28 (.tmp 1) (.tmp 39) rfl dg0 #[.slice aX (litT 0).canon.nodes.length cX, .int .i64 (litT 0).canon.root] rfl rfl sizedg rfl (by simp [Value.oneCell']) ?_)
  clear eX hBX
  refine (var_t w2 1 (by omega)).mono ?_
  rintro e w3 ⟨⟨aY, cY, rfl, tdY, -⟩, hb3⟩
  obtain ⟨w4, bY, eY, hBY, -, hY, BY⟩ := laid w3 #[.slice aY (litT 1).canon.nodes.length cY, .int .i64 (litT 1).canon.root] 28
  have BB := hb3.trans (BY.mono hb3.size)
  replace HX := Lib.hid (heap_below BB HX.out)
  replace DX := Lib.hid (DX.out.below BB)
  replace BW := Lib.hid (BW.out.trans (BB.mono BW.out.size))
  have HY := Lib.hid hY; have DY := Lib.hid (tdY.below BY)
  clear hb3 hY BY BB tdY
  go_wp2_with (with_reducible refine wpList_store_last rfl 28 (.tmp 3) (.tmp 43) rfl dg0 #[.slice aY (litT 1).canon.nodes.length cY, .int .i64 (litT 1).canon.root] rfl rfl sizedg rfl (by simp [Value.oneCell']) ?_)
  clear eY hBY
  refine (var_bad_t w4).mono ?_
  rintro e w5 ⟨rfl, hb5⟩
  have BB : Below w5.heap.size w5 (w5.alloc (.cells dg0 28)) := (Below.refl _ _).alloc (Nat.le_refl _) _
  replace HX := Lib.hid (heap_below hb5 HX.out)
  replace DX := Lib.hid (DX.out.below hb5)
  replace HY := Lib.hid (heap_below hb5 HY.out)
  replace DY := Lib.hid (DY.out.below hb5)
  replace BW := Lib.hid (BW.out.trans (hb5.mono BW.out.size))
  replace HX := Lib.hid (heap_below BB HX.out)
  replace DX := Lib.hid (DX.out.below BB)
  replace HY := Lib.hid (heap_below BB HY.out)
  replace DY := Lib.hid (DY.out.below BB)
  replace BW := Lib.hid (BW.out.trans (BB.mono BW.out.size))
  clear hb5 BB
  obtain ⟨p0X, p1X⟩ := box2 HX.out
  obtain ⟨p0Y, p1Y⟩ := box2 HY.out
  go_wp2_with (with_reducible refine wpList_store_last rfl 28 (.tmp 5) (.tmp 47) rfl dg0 dg0 rfl rfl sizedg rfl (by simp [Value.oneCell']) ?_)
  clear p0X p1X p0Y p1Y
  refine (and_t DX.out DY.out (few_k sAnd sAnd_ok sAnd_ev (by decide))).mono ?_
  rintro e w6 ⟨hR, hb6⟩
  obtain ⟨aA, cA, rfl, tdA, -⟩ := hR.known sAnd_ok sAnd_ev
  obtain ⟨w7, bA, eA, hBA, -, hA, BA⟩ := laid w6 #[.slice aA sAnd.canon.nodes.length cA, .int .i64 sAnd.canon.root] 28
  have BB := hb6.trans (BA.mono hb6.size)
  replace HX := Lib.hid (heap_below BB HX.out)
  replace DX := Lib.hid (DX.out.below BB)
  replace HY := Lib.hid (heap_below BB HY.out)
  replace DY := Lib.hid (DY.out.below BB)
  replace BW := Lib.hid (BW.out.trans (BB.mono BW.out.size))
  have HA := Lib.hid hA; have DA := Lib.hid (tdA.below BA)
  clear hb6 hA BA BB tdA
  clear hR
  obtain ⟨p0X, p1X⟩ := box2 HX.out
  obtain ⟨p0Y, p1Y⟩ := box2 HY.out
  go_wp2_with (with_reducible refine wpList_store_last rfl 28 (.tmp 7) (.tmp 53) rfl dg0 #[.slice aA sAnd.canon.nodes.length cA, .int .i64 sAnd.canon.root] rfl rfl sizedg rfl (by simp [Value.oneCell']) ?_)
  clear p0X p1X p0Y p1Y eA hBA
  refine (or_t DX.out DY.out (few_k sOr sOr_ok sOr_ev (by decide))).mono ?_
  rintro e w8 ⟨hR, hb8⟩
  obtain ⟨aO, cO, rfl, tdO, -⟩ := hR.known sOr_ok sOr_ev
  obtain ⟨w9, bO, eO, hBO, -, hO, BO⟩ := laid w8 #[.slice aO sOr.canon.nodes.length cO, .int .i64 sOr.canon.root] 28
  have BB := hb8.trans (BO.mono hb8.size)
  replace HX := Lib.hid (heap_below BB HX.out)
  replace DX := Lib.hid (DX.out.below BB)
  replace HY := Lib.hid (heap_below BB HY.out)
  replace DY := Lib.hid (DY.out.below BB)
  replace HA := Lib.hid (heap_below BB HA.out)
  replace DA := Lib.hid (DA.out.below BB)
  replace BW := Lib.hid (BW.out.trans (BB.mono BW.out.size))
  have HO := Lib.hid hO; have DO := Lib.hid (tdO.below BO)
  clear hb8 hO BO BB tdO
  clear hR
  obtain ⟨p0X, p1X⟩ := box2 HX.out
  obtain ⟨p0Y, p1Y⟩ := box2 HY.out
  go_wp2_with (with_reducible refine wpList_store_last rfl 28 (.tmp 9) (.tmp 59) rfl dg0 #[.slice aO sOr.canon.nodes.length cO, .int .i64 sOr.canon.root] rfl rfl sizedg rfl (by simp [Value.oneCell']) ?_)
  clear p0X p1X p0Y p1Y eO hBO
  refine (xor_t DX.out DY.out (few_k sXor sXor_ok sXor_ev (by decide))).mono ?_
  rintro e w10 ⟨hR, hb10⟩
  obtain ⟨aR, cR, rfl, tdR, -⟩ := hR.known sXor_ok sXor_ev
  obtain ⟨w11, bR, eR, hBR, -, hR, BR⟩ := laid w10 #[.slice aR sXor.canon.nodes.length cR, .int .i64 sXor.canon.root] 28
  have BB := hb10.trans (BR.mono hb10.size)
  replace HX := Lib.hid (heap_below BB HX.out)
  replace DX := Lib.hid (DX.out.below BB)
  replace HY := Lib.hid (heap_below BB HY.out)
  replace DY := Lib.hid (DY.out.below BB)
  replace HA := Lib.hid (heap_below BB HA.out)
  replace DA := Lib.hid (DA.out.below BB)
  replace HO := Lib.hid (heap_below BB HO.out)
  replace DO := Lib.hid (DO.out.below BB)
  replace BW := Lib.hid (BW.out.trans (BB.mono BW.out.size))
  have HR := Lib.hid hR; have DR := Lib.hid (tdR.below BR)
  clear hb10 hR BR BB tdR
  clear hR
  obtain ⟨p0X, p1X⟩ := box2 HX.out
  go_wp2_with (with_reducible refine wpList_store_last rfl 28 (.tmp 11) (.tmp 65) rfl dg0 #[.slice aR sXor.canon.nodes.length cR, .int .i64 sXor.canon.root] rfl rfl sizedg rfl (by simp [Value.oneCell']) ?_)
  clear p0X p1X eR hBR
  refine (not_t DX.out (few_k sNot sNot_ok sNot_ev (by decide))).mono ?_
  rintro e w12 ⟨hR, hb12⟩
  obtain ⟨aN, cN, rfl, tdN, -⟩ := hR.known sNot_ok sNot_ev
  obtain ⟨w13, bN, eN, hBN, -, hN, BN⟩ := laid w12 #[.slice aN sNot.canon.nodes.length cN, .int .i64 sNot.canon.root] 28
  have BB := hb12.trans (BN.mono hb12.size)
  replace HX := Lib.hid (heap_below BB HX.out)
  replace DX := Lib.hid (DX.out.below BB)
  replace HY := Lib.hid (heap_below BB HY.out)
  replace DY := Lib.hid (DY.out.below BB)
  replace HA := Lib.hid (heap_below BB HA.out)
  replace DA := Lib.hid (DA.out.below BB)
  replace HO := Lib.hid (heap_below BB HO.out)
  replace DO := Lib.hid (DO.out.below BB)
  replace HR := Lib.hid (heap_below BB HR.out)
  replace DR := Lib.hid (DR.out.below BB)
  replace BW := Lib.hid (BW.out.trans (BB.mono BW.out.size))
  have HN := Lib.hid hN; have DN := Lib.hid (tdN.below BN)
  clear hb12 hN BN BB tdN
  clear hR
  obtain ⟨p0O, p1O⟩ := box2 HO.out
  go_wp2_with (with_reducible refine wpList_store_last rfl 28 (.tmp 13) (.tmp 70) rfl dg0 #[.slice aN sNot.canon.nodes.length cN, .int .i64 sNot.canon.root] rfl rfl sizedg rfl (by simp [Value.oneCell']) ?_)
  clear p0O p1O eN hBN
  refine (restrict_t DO.out 0 (by omega) true (few_k (T.leaf true) (show (T.leaf true).Ok from trivial) sHigh_ev (by decide))).mono ?_
  rintro e w14 ⟨hR, hb14⟩
  obtain ⟨aI, cI, rfl, tdI, -⟩ := hR.known (show (T.leaf true).Ok from trivial) sHigh_ev
  obtain ⟨w15, bI, eI, hBI, -, hI, BI⟩ := laid w14 #[.slice aI (T.leaf true).canon.nodes.length cI, .int .i64 (T.leaf true).canon.root] 28
  have BB := hb14.trans (BI.mono hb14.size)
  replace HX := Lib.hid (heap_below BB HX.out)
  replace DX := Lib.hid (DX.out.below BB)
  replace HY := Lib.hid (heap_below BB HY.out)
  replace DY := Lib.hid (DY.out.below BB)
  replace HA := Lib.hid (heap_below BB HA.out)
  replace DA := Lib.hid (DA.out.below BB)
  replace HO := Lib.hid (heap_below BB HO.out)
  replace DO := Lib.hid (DO.out.below BB)
  replace HR := Lib.hid (heap_below BB HR.out)
  replace DR := Lib.hid (DR.out.below BB)
  replace HN := Lib.hid (heap_below BB HN.out)
  replace DN := Lib.hid (DN.out.below BB)
  replace BW := Lib.hid (BW.out.trans (BB.mono BW.out.size))
  have HI := Lib.hid hI; have DI := Lib.hid (tdI.below BI)
  clear hb14 hI BI BB tdI
  clear hR
  obtain ⟨p0O, p1O⟩ := box2 HO.out
  go_wp2_with (with_reducible refine wpList_store_last rfl 28 (.tmp 15) (.tmp 75) rfl dg0 #[.slice aI (T.leaf true).canon.nodes.length cI, .int .i64 (T.leaf true).canon.root] rfl rfl sizedg rfl (by simp [Value.oneCell']) ?_)
  clear p0O p1O eI hBI
  refine (restrict_t DO.out 0 (by omega) false (few_k (litT 1) (litT_ok (by omega)) sLow_ev (by decide))).mono ?_
  rintro e w16 ⟨hR, hb16⟩
  obtain ⟨aV, cV, rfl, tdV, -⟩ := hR.known (litT_ok (by omega)) sLow_ev
  obtain ⟨w17, bV, eV, hBV, -, hV, BV⟩ := laid w16 #[.slice aV (litT 1).canon.nodes.length cV, .int .i64 (litT 1).canon.root] 28
  have BB := hb16.trans (BV.mono hb16.size)
  replace HX := Lib.hid (heap_below BB HX.out)
  replace DX := Lib.hid (DX.out.below BB)
  replace HY := Lib.hid (heap_below BB HY.out)
  replace DY := Lib.hid (DY.out.below BB)
  replace HA := Lib.hid (heap_below BB HA.out)
  replace DA := Lib.hid (DA.out.below BB)
  replace HO := Lib.hid (heap_below BB HO.out)
  replace DO := Lib.hid (DO.out.below BB)
  replace HR := Lib.hid (heap_below BB HR.out)
  replace DR := Lib.hid (DR.out.below BB)
  replace HN := Lib.hid (heap_below BB HN.out)
  replace DN := Lib.hid (DN.out.below BB)
  replace HI := Lib.hid (heap_below BB HI.out)
  replace DI := Lib.hid (DI.out.below BB)
  replace BW := Lib.hid (BW.out.trans (BB.mono BW.out.size))
  have HV := Lib.hid hV; have DV := Lib.hid (tdV.below BV)
  clear hb16 hV BV BB tdV
  clear hR
  obtain ⟨p0A, p1A⟩ := box2 HA.out
  go_wp2_with (with_reducible refine wpList_store_last rfl 28 (.tmp 17) (.tmp 80) rfl dg0 #[.slice aV (litT 1).canon.nodes.length cV, .int .i64 (litT 1).canon.root] rfl rfl sizedg rfl (by simp [Value.oneCell']) ?_)
  clear p0A p1A eV hBV
  refine (exists_t DA.out 1 (by omega) (few_k (litT 0) (litT_ok (by omega)) sSome_ev (by decide))).mono ?_
  rintro e w18 ⟨hR, hb18⟩
  obtain ⟨aS, cS, rfl, tdS, -⟩ := hR.known (litT_ok (by omega)) sSome_ev
  obtain ⟨w19, bS, eS, hBS, -, hS, BS⟩ := laid w18 #[.slice aS (litT 0).canon.nodes.length cS, .int .i64 (litT 0).canon.root] 28
  have BB := hb18.trans (BS.mono hb18.size)
  replace HX := Lib.hid (heap_below BB HX.out)
  replace DX := Lib.hid (DX.out.below BB)
  replace HY := Lib.hid (heap_below BB HY.out)
  replace DY := Lib.hid (DY.out.below BB)
  replace HA := Lib.hid (heap_below BB HA.out)
  replace DA := Lib.hid (DA.out.below BB)
  replace HO := Lib.hid (heap_below BB HO.out)
  replace DO := Lib.hid (DO.out.below BB)
  replace HR := Lib.hid (heap_below BB HR.out)
  replace DR := Lib.hid (DR.out.below BB)
  replace HN := Lib.hid (heap_below BB HN.out)
  replace DN := Lib.hid (DN.out.below BB)
  replace HI := Lib.hid (heap_below BB HI.out)
  replace DI := Lib.hid (DI.out.below BB)
  replace HV := Lib.hid (heap_below BB HV.out)
  replace DV := Lib.hid (DV.out.below BB)
  replace BW := Lib.hid (BW.out.trans (BB.mono BW.out.size))
  have HS := Lib.hid hS; have DS := Lib.hid (tdS.below BS)
  clear hb18 hS BS BB tdS
  clear hR
  obtain ⟨p0O, p1O⟩ := box2 HO.out
  go_wp2_with (with_reducible refine wpList_store_last rfl 28 (.tmp 19) (.tmp 85) rfl dg0 #[.slice aS (litT 0).canon.nodes.length cS, .int .i64 (litT 0).canon.root] rfl rfl sizedg rfl (by simp [Value.oneCell']) ?_)
  clear p0O p1O eS hBS
  refine (count_k DO.out 2 (by omega) (by refine ⟨by omega, ⟨by omega, trivial, trivial⟩, trivial⟩) 3 (by decide) (by omega) (by omega)).mono ?_
  rintro e w20 ⟨⟨bP, fP, cP, rfl, hN⟩, hb20⟩
  replace HX := Lib.hid (heap_below hb20 HX.out)
  replace DX := Lib.hid (DX.out.below hb20)
  replace HY := Lib.hid (heap_below hb20 HY.out)
  replace DY := Lib.hid (DY.out.below hb20)
  replace HA := Lib.hid (heap_below hb20 HA.out)
  replace DA := Lib.hid (DA.out.below hb20)
  replace HO := Lib.hid (heap_below hb20 HO.out)
  replace DO := Lib.hid (DO.out.below hb20)
  replace HR := Lib.hid (heap_below hb20 HR.out)
  replace DR := Lib.hid (DR.out.below hb20)
  replace HN := Lib.hid (heap_below hb20 HN.out)
  replace DN := Lib.hid (DN.out.below hb20)
  replace HI := Lib.hid (heap_below hb20 HI.out)
  replace DI := Lib.hid (DI.out.below hb20)
  replace HV := Lib.hid (heap_below hb20 HV.out)
  replace DV := Lib.hid (DV.out.below hb20)
  replace HS := Lib.hid (heap_below hb20 HS.out)
  replace DS := Lib.hid (DS.out.below hb20)
  replace BW := Lib.hid (BW.out.trans (hb20.mono BW.out.size))
  clear hb20
  have NP := Lib.hid hN
  clear hN
  obtain ⟨p0O, p1O⟩ := box2 HO.out
  go_wp2_with (fail)
  clear p0O p1O
  refine (count_k DO.out 3 (by omega) (by refine ⟨by omega, ⟨by omega, trivial, trivial⟩, trivial⟩) 6 (by decide) (by omega) (by omega)).mono ?_
  rintro e w21 ⟨⟨bQ, fQ, cQ, rfl, hN⟩, hb21⟩
  replace HX := Lib.hid (heap_below hb21 HX.out)
  replace DX := Lib.hid (DX.out.below hb21)
  replace HY := Lib.hid (heap_below hb21 HY.out)
  replace DY := Lib.hid (DY.out.below hb21)
  replace HA := Lib.hid (heap_below hb21 HA.out)
  replace DA := Lib.hid (DA.out.below hb21)
  replace HO := Lib.hid (heap_below hb21 HO.out)
  replace DO := Lib.hid (DO.out.below hb21)
  replace HR := Lib.hid (heap_below hb21 HR.out)
  replace DR := Lib.hid (DR.out.below hb21)
  replace HN := Lib.hid (heap_below hb21 HN.out)
  replace DN := Lib.hid (DN.out.below hb21)
  replace HI := Lib.hid (heap_below hb21 HI.out)
  replace DI := Lib.hid (DI.out.below hb21)
  replace HV := Lib.hid (heap_below hb21 HV.out)
  replace DV := Lib.hid (DV.out.below hb21)
  replace HS := Lib.hid (heap_below hb21 HS.out)
  replace DS := Lib.hid (DS.out.below hb21)
  replace NP := Lib.hid (NP.out.below hb21)
  replace BW := Lib.hid (BW.out.trans (hb21.mono BW.out.size))
  clear hb21
  have NQ := Lib.hid hN
  clear hN
  obtain ⟨p0O, p1O⟩ := box2 HO.out
  go_wp2_with (fail)
  clear p0O p1O
  refine (count_err DO.out 1 (by omega) ⟨⟨1, 0, 1⟩, by decide, by decide⟩).mono ?_
  rintro e w22 ⟨rfl, hb22⟩
  replace HX := Lib.hid (heap_below hb22 HX.out)
  replace DX := Lib.hid (DX.out.below hb22)
  replace HY := Lib.hid (heap_below hb22 HY.out)
  replace DY := Lib.hid (DY.out.below hb22)
  replace HA := Lib.hid (heap_below hb22 HA.out)
  replace DA := Lib.hid (DA.out.below hb22)
  replace HO := Lib.hid (heap_below hb22 HO.out)
  replace DO := Lib.hid (DO.out.below hb22)
  replace HR := Lib.hid (heap_below hb22 HR.out)
  replace DR := Lib.hid (DR.out.below hb22)
  replace HN := Lib.hid (heap_below hb22 HN.out)
  replace DN := Lib.hid (DN.out.below hb22)
  replace HI := Lib.hid (heap_below hb22 HI.out)
  replace DI := Lib.hid (DI.out.below hb22)
  replace HV := Lib.hid (heap_below hb22 HV.out)
  replace DV := Lib.hid (DV.out.below hb22)
  replace HS := Lib.hid (heap_below hb22 HS.out)
  replace DS := Lib.hid (DS.out.below hb22)
  replace NP := Lib.hid (NP.out.below hb22)
  replace NQ := Lib.hid (NQ.out.below hb22)
  replace BW := Lib.hid (BW.out.trans (hb22.mono BW.out.size))
  clear hb22
  obtain ⟨p0R, p1R⟩ := box2 HR.out
  go_wp2_with (fail)
  clear p0R p1R
  refine (least_k DR.out 1 (by simp) (by decide)).mono ?_
  rintro e w23 ⟨rfl, hb23⟩
  replace HX := Lib.hid (heap_below hb23 HX.out)
  replace DX := Lib.hid (DX.out.below hb23)
  replace HY := Lib.hid (heap_below hb23 HY.out)
  replace DY := Lib.hid (DY.out.below hb23)
  replace HA := Lib.hid (heap_below hb23 HA.out)
  replace DA := Lib.hid (DA.out.below hb23)
  replace HO := Lib.hid (heap_below hb23 HO.out)
  replace DO := Lib.hid (DO.out.below hb23)
  replace HR := Lib.hid (heap_below hb23 HR.out)
  replace DR := Lib.hid (DR.out.below hb23)
  replace HN := Lib.hid (heap_below hb23 HN.out)
  replace DN := Lib.hid (DN.out.below hb23)
  replace HI := Lib.hid (heap_below hb23 HI.out)
  replace DI := Lib.hid (DI.out.below hb23)
  replace HV := Lib.hid (heap_below hb23 HV.out)
  replace DV := Lib.hid (DV.out.below hb23)
  replace HS := Lib.hid (heap_below hb23 HS.out)
  replace DS := Lib.hid (DS.out.below hb23)
  replace NP := Lib.hid (NP.out.below hb23)
  replace NQ := Lib.hid (NQ.out.below hb23)
  replace BW := Lib.hid (BW.out.trans (hb23.mono BW.out.size))
  clear hb23
  obtain ⟨p0A, p1A⟩ := box2 HA.out
  go_wp2_with (fail)
  clear p0A p1A
  refine (least_k DA.out 3 (by simp) (by decide)).mono ?_
  rintro e w24 ⟨rfl, hb24⟩
  replace HX := Lib.hid (heap_below hb24 HX.out)
  replace DX := Lib.hid (DX.out.below hb24)
  replace HY := Lib.hid (heap_below hb24 HY.out)
  replace DY := Lib.hid (DY.out.below hb24)
  replace HA := Lib.hid (heap_below hb24 HA.out)
  replace DA := Lib.hid (DA.out.below hb24)
  replace HO := Lib.hid (heap_below hb24 HO.out)
  replace DO := Lib.hid (DO.out.below hb24)
  replace HR := Lib.hid (heap_below hb24 HR.out)
  replace DR := Lib.hid (DR.out.below hb24)
  replace HN := Lib.hid (heap_below hb24 HN.out)
  replace DN := Lib.hid (DN.out.below hb24)
  replace HI := Lib.hid (heap_below hb24 HI.out)
  replace DI := Lib.hid (DI.out.below hb24)
  replace HV := Lib.hid (heap_below hb24 HV.out)
  replace DV := Lib.hid (DV.out.below hb24)
  replace HS := Lib.hid (heap_below hb24 HS.out)
  replace DS := Lib.hid (DS.out.below hb24)
  replace NP := Lib.hid (NP.out.below hb24)
  replace NQ := Lib.hid (NQ.out.below hb24)
  replace BW := Lib.hid (BW.out.trans (hb24.mono BW.out.size))
  clear hb24
  obtain ⟨p0N, p1N⟩ := box2 HN.out
  go_wp2_with (fail)
  clear p0N p1N
  refine (least_k DN.out 0 (by simp) (by decide)).mono ?_
  rintro e w25 ⟨rfl, hb25⟩
  replace HX := Lib.hid (heap_below hb25 HX.out)
  replace DX := Lib.hid (DX.out.below hb25)
  replace HY := Lib.hid (heap_below hb25 HY.out)
  replace DY := Lib.hid (DY.out.below hb25)
  replace HA := Lib.hid (heap_below hb25 HA.out)
  replace DA := Lib.hid (DA.out.below hb25)
  replace HO := Lib.hid (heap_below hb25 HO.out)
  replace DO := Lib.hid (DO.out.below hb25)
  replace HR := Lib.hid (heap_below hb25 HR.out)
  replace DR := Lib.hid (DR.out.below hb25)
  replace HN := Lib.hid (heap_below hb25 HN.out)
  replace DN := Lib.hid (DN.out.below hb25)
  replace HI := Lib.hid (heap_below hb25 HI.out)
  replace DI := Lib.hid (DI.out.below hb25)
  replace HV := Lib.hid (heap_below hb25 HV.out)
  replace DV := Lib.hid (DV.out.below hb25)
  replace HS := Lib.hid (heap_below hb25 HS.out)
  replace DS := Lib.hid (DS.out.below hb25)
  replace NP := Lib.hid (NP.out.below hb25)
  replace NQ := Lib.hid (NQ.out.below hb25)
  replace BW := Lib.hid (BW.out.trans (hb25.mono BW.out.size))
  clear hb25
  obtain ⟨w26, bb, eb, hbb, -, hh, Bb⟩ := laid w25 #[.int .i64 0, .int .i64 0, .int .i64 1] 44
  have DB : DgAt w26 NoB (.agg #[.slice (some ⟨bb, 0, none⟩) 1 1, .int .i64 2]) ⟨[⟨0, 0, 1⟩], 2⟩ := dg_of_block (ns := [⟨0, 0, 1⟩]) hh (in_of _ (by decide) (by decide)) (by decide)
  have C := is_k (DX.out.below Bb) 2 _ ⟨[⟨0, 0, 1⟩], 2⟩ rfl DB (by decide)
  obtain ⟨p0X, p1X⟩ := box2 HX.out
  go_wp2_with (fail)
  clear p0X p1X
  refine C.mono ?_
  rintro e w27 ⟨rfl, hb⟩
  have BB := Bb.trans (hb.mono Bb.size)
  clear C DB
  replace HX := Lib.hid (heap_below BB HX.out)
  replace DX := Lib.hid (DX.out.below BB)
  replace HY := Lib.hid (heap_below BB HY.out)
  replace DY := Lib.hid (DY.out.below BB)
  replace HA := Lib.hid (heap_below BB HA.out)
  replace DA := Lib.hid (DA.out.below BB)
  replace HO := Lib.hid (heap_below BB HO.out)
  replace DO := Lib.hid (DO.out.below BB)
  replace HR := Lib.hid (heap_below BB HR.out)
  replace DR := Lib.hid (DR.out.below BB)
  replace HN := Lib.hid (heap_below BB HN.out)
  replace DN := Lib.hid (DN.out.below BB)
  replace HI := Lib.hid (heap_below BB HI.out)
  replace DI := Lib.hid (DI.out.below BB)
  replace HV := Lib.hid (heap_below BB HV.out)
  replace DV := Lib.hid (DV.out.below BB)
  replace HS := Lib.hid (heap_below BB HS.out)
  replace DS := Lib.hid (DS.out.below BB)
  replace NP := Lib.hid (NP.out.below BB)
  replace NQ := Lib.hid (NQ.out.below BB)
  replace BW := Lib.hid (BW.out.trans (BB.mono BW.out.size))
  clear BB hb hh Bb eb hbb
  obtain ⟨w28, bb, eb, hbb, -, hh, Bb⟩ := laid w27 #[.int .i64 0, .int .i64 1, .int .i64 0] 44
  have DB : DgAt w28 NoB (.agg #[.slice (some ⟨bb, 0, none⟩) 1 1, .int .i64 2]) ⟨[⟨0, 1, 0⟩], 2⟩ := dg_of_block (ns := [⟨0, 1, 0⟩]) hh (in_of _ (by decide) (by decide)) (by decide)
  have C := is_k (DN.out.below Bb) 2 _ ⟨[⟨0, 1, 0⟩], 2⟩ rfl DB (by decide)
  obtain ⟨p0N, p1N⟩ := box2 HN.out
  go_wp2_with (fail)
  clear p0N p1N
  refine C.mono ?_
  rintro e w29 ⟨rfl, hb⟩
  have BB := Bb.trans (hb.mono Bb.size)
  clear C DB
  replace HX := Lib.hid (heap_below BB HX.out)
  replace DX := Lib.hid (DX.out.below BB)
  replace HY := Lib.hid (heap_below BB HY.out)
  replace DY := Lib.hid (DY.out.below BB)
  replace HA := Lib.hid (heap_below BB HA.out)
  replace DA := Lib.hid (DA.out.below BB)
  replace HO := Lib.hid (heap_below BB HO.out)
  replace DO := Lib.hid (DO.out.below BB)
  replace HR := Lib.hid (heap_below BB HR.out)
  replace DR := Lib.hid (DR.out.below BB)
  replace HN := Lib.hid (heap_below BB HN.out)
  replace DN := Lib.hid (DN.out.below BB)
  replace HI := Lib.hid (heap_below BB HI.out)
  replace DI := Lib.hid (DI.out.below BB)
  replace HV := Lib.hid (heap_below BB HV.out)
  replace DV := Lib.hid (DV.out.below BB)
  replace HS := Lib.hid (heap_below BB HS.out)
  replace DS := Lib.hid (DS.out.below BB)
  replace NP := Lib.hid (NP.out.below BB)
  replace NQ := Lib.hid (NQ.out.below BB)
  replace BW := Lib.hid (BW.out.trans (BB.mono BW.out.size))
  clear BB hb hh Bb eb hbb
  obtain ⟨w30, bb, eb, hbb, -, hh, Bb⟩ := laid w29 #[.int .i64 1, .int .i64 0, .int .i64 1, .int .i64 0, .int .i64 0, .int .i64 2] 44
  have DB : DgAt w30 NoB (.agg #[.slice (some ⟨bb, 0, none⟩) 2 2, .int .i64 3]) ⟨[⟨1, 0, 1⟩, ⟨0, 0, 2⟩], 3⟩ := dg_of_block (ns := [⟨1, 0, 1⟩, ⟨0, 0, 2⟩]) hh (in_of _ (by decide) (by decide)) (by decide)
  have C := is_k (DA.out.below Bb) 3 _ ⟨[⟨1, 0, 1⟩, ⟨0, 0, 2⟩], 3⟩ rfl DB (by decide)
  obtain ⟨p0A, p1A⟩ := box2 HA.out
  go_wp2_with (fail)
  clear p0A p1A
  refine C.mono ?_
  rintro e w31 ⟨rfl, hb⟩
  have BB := Bb.trans (hb.mono Bb.size)
  clear C DB
  replace HX := Lib.hid (heap_below BB HX.out)
  replace DX := Lib.hid (DX.out.below BB)
  replace HY := Lib.hid (heap_below BB HY.out)
  replace DY := Lib.hid (DY.out.below BB)
  replace HA := Lib.hid (heap_below BB HA.out)
  replace DA := Lib.hid (DA.out.below BB)
  replace HO := Lib.hid (heap_below BB HO.out)
  replace DO := Lib.hid (DO.out.below BB)
  replace HR := Lib.hid (heap_below BB HR.out)
  replace DR := Lib.hid (DR.out.below BB)
  replace HN := Lib.hid (heap_below BB HN.out)
  replace DN := Lib.hid (DN.out.below BB)
  replace HI := Lib.hid (heap_below BB HI.out)
  replace DI := Lib.hid (DI.out.below BB)
  replace HV := Lib.hid (heap_below BB HV.out)
  replace DV := Lib.hid (DV.out.below BB)
  replace HS := Lib.hid (heap_below BB HS.out)
  replace DS := Lib.hid (DS.out.below BB)
  replace NP := Lib.hid (NP.out.below BB)
  replace NQ := Lib.hid (NQ.out.below BB)
  replace BW := Lib.hid (BW.out.trans (BB.mono BW.out.size))
  clear BB hb hh Bb eb hbb
  obtain ⟨w32, bb, eb, hbb, -, hh, Bb⟩ := laid w31 #[.int .i64 1, .int .i64 0, .int .i64 1, .int .i64 0, .int .i64 2, .int .i64 1] 44
  have DB : DgAt w32 NoB (.agg #[.slice (some ⟨bb, 0, none⟩) 2 2, .int .i64 3]) ⟨[⟨1, 0, 1⟩, ⟨0, 2, 1⟩], 3⟩ := dg_of_block (ns := [⟨1, 0, 1⟩, ⟨0, 2, 1⟩]) hh (in_of _ (by decide) (by decide)) (by decide)
  have C := is_k (DO.out.below Bb) 3 _ ⟨[⟨1, 0, 1⟩, ⟨0, 2, 1⟩], 3⟩ rfl DB (by decide)
  obtain ⟨p0O, p1O⟩ := box2 HO.out
  go_wp2_with (fail)
  clear p0O p1O
  refine C.mono ?_
  rintro e w33 ⟨rfl, hb⟩
  have BB := Bb.trans (hb.mono Bb.size)
  clear C DB
  replace HX := Lib.hid (heap_below BB HX.out)
  replace DX := Lib.hid (DX.out.below BB)
  replace HY := Lib.hid (heap_below BB HY.out)
  replace DY := Lib.hid (DY.out.below BB)
  replace HA := Lib.hid (heap_below BB HA.out)
  replace DA := Lib.hid (DA.out.below BB)
  replace HO := Lib.hid (heap_below BB HO.out)
  replace DO := Lib.hid (DO.out.below BB)
  replace HR := Lib.hid (heap_below BB HR.out)
  replace DR := Lib.hid (DR.out.below BB)
  replace HN := Lib.hid (heap_below BB HN.out)
  replace DN := Lib.hid (DN.out.below BB)
  replace HI := Lib.hid (heap_below BB HI.out)
  replace DI := Lib.hid (DI.out.below BB)
  replace HV := Lib.hid (heap_below BB HV.out)
  replace DV := Lib.hid (DV.out.below BB)
  replace HS := Lib.hid (heap_below BB HS.out)
  replace DS := Lib.hid (DS.out.below BB)
  replace NP := Lib.hid (NP.out.below BB)
  replace NQ := Lib.hid (NQ.out.below BB)
  replace BW := Lib.hid (BW.out.trans (BB.mono BW.out.size))
  clear BB hb hh Bb eb hbb
  obtain ⟨w34, bb, eb, hbb, -, hh, Bb⟩ := laid w33 #[.int .i64 1, .int .i64 0, .int .i64 1, .int .i64 1, .int .i64 1, .int .i64 0, .int .i64 0, .int .i64 2, .int .i64 3] 44
  have DB : DgAt w34 NoB (.agg #[.slice (some ⟨bb, 0, none⟩) 3 3, .int .i64 4]) ⟨[⟨1, 0, 1⟩, ⟨1, 1, 0⟩, ⟨0, 2, 3⟩], 4⟩ := dg_of_block (ns := [⟨1, 0, 1⟩, ⟨1, 1, 0⟩, ⟨0, 2, 3⟩]) hh (in_of _ (by decide) (by decide)) (by decide)
  have C := is_k (DR.out.below Bb) 4 _ ⟨[⟨1, 0, 1⟩, ⟨1, 1, 0⟩, ⟨0, 2, 3⟩], 4⟩ rfl DB (by decide)
  obtain ⟨p0R, p1R⟩ := box2 HR.out
  go_wp2_with (fail)
  clear p0R p1R
  refine C.mono ?_
  rintro e w35 ⟨rfl, hb⟩
  have BB := Bb.trans (hb.mono Bb.size)
  clear C DB
  replace HX := Lib.hid (heap_below BB HX.out)
  replace DX := Lib.hid (DX.out.below BB)
  replace HY := Lib.hid (heap_below BB HY.out)
  replace DY := Lib.hid (DY.out.below BB)
  replace HA := Lib.hid (heap_below BB HA.out)
  replace DA := Lib.hid (DA.out.below BB)
  replace HO := Lib.hid (heap_below BB HO.out)
  replace DO := Lib.hid (DO.out.below BB)
  replace HR := Lib.hid (heap_below BB HR.out)
  replace DR := Lib.hid (DR.out.below BB)
  replace HN := Lib.hid (heap_below BB HN.out)
  replace DN := Lib.hid (DN.out.below BB)
  replace HI := Lib.hid (heap_below BB HI.out)
  replace DI := Lib.hid (DI.out.below BB)
  replace HV := Lib.hid (heap_below BB HV.out)
  replace DV := Lib.hid (DV.out.below BB)
  replace HS := Lib.hid (heap_below BB HS.out)
  replace DS := Lib.hid (DS.out.below BB)
  replace NP := Lib.hid (NP.out.below BB)
  replace NQ := Lib.hid (NQ.out.below BB)
  replace BW := Lib.hid (BW.out.trans (BB.mono BW.out.size))
  clear BB hb hh Bb eb hbb
  obtain ⟨p0I, p1I⟩ := box2 HI.out
  go_wp2_with (fail)
  clear p0I p1I
  refine (is_k DI.out 1 _ ⟨[], 1⟩ rfl (DgAt.consts _ 1 (by decide)) (by decide)).mono ?_
  rintro e w36 ⟨rfl, hb36⟩
  replace HX := Lib.hid (heap_below hb36 HX.out)
  replace DX := Lib.hid (DX.out.below hb36)
  replace HY := Lib.hid (heap_below hb36 HY.out)
  replace DY := Lib.hid (DY.out.below hb36)
  replace HA := Lib.hid (heap_below hb36 HA.out)
  replace DA := Lib.hid (DA.out.below hb36)
  replace HO := Lib.hid (heap_below hb36 HO.out)
  replace DO := Lib.hid (DO.out.below hb36)
  replace HR := Lib.hid (heap_below hb36 HR.out)
  replace DR := Lib.hid (DR.out.below hb36)
  replace HN := Lib.hid (heap_below hb36 HN.out)
  replace DN := Lib.hid (DN.out.below hb36)
  replace HI := Lib.hid (heap_below hb36 HI.out)
  replace DI := Lib.hid (DI.out.below hb36)
  replace HV := Lib.hid (heap_below hb36 HV.out)
  replace DV := Lib.hid (DV.out.below hb36)
  replace HS := Lib.hid (heap_below hb36 HS.out)
  replace DS := Lib.hid (DS.out.below hb36)
  replace NP := Lib.hid (NP.out.below hb36)
  replace NQ := Lib.hid (NQ.out.below hb36)
  replace BW := Lib.hid (BW.out.trans (hb36.mono BW.out.size))
  clear hb36
  obtain ⟨p0V, p1V⟩ := box2 HV.out
  obtain ⟨p0Y, p1Y⟩ := box2 HY.out
  go_wp2_with (fail)
  clear p0V p1V p0Y p1Y
  refine (rsame_k DV.out DY.out rfl).mono ?_
  rintro e w37 ⟨rfl, hb37⟩
  replace HX := Lib.hid (heap_below hb37 HX.out)
  replace DX := Lib.hid (DX.out.below hb37)
  replace HY := Lib.hid (heap_below hb37 HY.out)
  replace DY := Lib.hid (DY.out.below hb37)
  replace HA := Lib.hid (heap_below hb37 HA.out)
  replace DA := Lib.hid (DA.out.below hb37)
  replace HO := Lib.hid (heap_below hb37 HO.out)
  replace DO := Lib.hid (DO.out.below hb37)
  replace HR := Lib.hid (heap_below hb37 HR.out)
  replace DR := Lib.hid (DR.out.below hb37)
  replace HN := Lib.hid (heap_below hb37 HN.out)
  replace DN := Lib.hid (DN.out.below hb37)
  replace HI := Lib.hid (heap_below hb37 HI.out)
  replace DI := Lib.hid (DI.out.below hb37)
  replace HV := Lib.hid (heap_below hb37 HV.out)
  replace DV := Lib.hid (DV.out.below hb37)
  replace HS := Lib.hid (heap_below hb37 HS.out)
  replace DS := Lib.hid (DS.out.below hb37)
  replace NP := Lib.hid (NP.out.below hb37)
  replace NQ := Lib.hid (NQ.out.below hb37)
  replace BW := Lib.hid (BW.out.trans (hb37.mono BW.out.size))
  clear hb37
  obtain ⟨p0S, p1S⟩ := box2 HS.out
  obtain ⟨p0X, p1X⟩ := box2 HX.out
  go_wp2_with (fail)
  clear p0S p1S p0X p1X
  refine (rsame_k DS.out DX.out rfl).mono ?_
  rintro e w38 ⟨rfl, hb38⟩
  replace HX := Lib.hid (heap_below hb38 HX.out)
  replace DX := Lib.hid (DX.out.below hb38)
  replace HY := Lib.hid (heap_below hb38 HY.out)
  replace DY := Lib.hid (DY.out.below hb38)
  replace HA := Lib.hid (heap_below hb38 HA.out)
  replace DA := Lib.hid (DA.out.below hb38)
  replace HO := Lib.hid (heap_below hb38 HO.out)
  replace DO := Lib.hid (DO.out.below hb38)
  replace HR := Lib.hid (heap_below hb38 HR.out)
  replace DR := Lib.hid (DR.out.below hb38)
  replace HN := Lib.hid (heap_below hb38 HN.out)
  replace DN := Lib.hid (DN.out.below hb38)
  replace HI := Lib.hid (heap_below hb38 HI.out)
  replace DI := Lib.hid (DI.out.below hb38)
  replace HV := Lib.hid (heap_below hb38 HV.out)
  replace DV := Lib.hid (DV.out.below hb38)
  replace HS := Lib.hid (heap_below hb38 HS.out)
  replace DS := Lib.hid (DS.out.below hb38)
  replace NP := Lib.hid (NP.out.below hb38)
  replace NQ := Lib.hid (NQ.out.below hb38)
  replace BW := Lib.hid (BW.out.trans (hb38.mono BW.out.size))
  clear hb38
  have zP := nat_cell NP.out (by omega) (by omega)
  have zQ := nat_cell NQ.out (by omega) (by omega)
  obtain ⟨w39, bb, eb, hbb, -, hh, Bb⟩ := laid w38 #[.int .i64 0, .int .i64 0, .int .i64 0] 44
  have DB : DgAt w39 NoB (.agg #[.slice (some ⟨bb, 0, none⟩) 1 1, .int .i64 2]) ⟨[⟨0, 0, 0⟩], 2⟩ := dg_of_block (ns := [⟨0, 0, 0⟩]) hh (in_of _ (by decide) (by decide)) (by decide)
  have C := check_bad DB bad1 (by decide)
  go_wp2_with (fail)
  refine C.mono ?_
  rintro e w40 ⟨rfl, hb⟩
  have BB := Bb.trans (hb.mono Bb.size)
  clear C DB
  replace HX := Lib.hid (heap_below BB HX.out)
  replace DX := Lib.hid (DX.out.below BB)
  replace HY := Lib.hid (heap_below BB HY.out)
  replace DY := Lib.hid (DY.out.below BB)
  replace HA := Lib.hid (heap_below BB HA.out)
  replace DA := Lib.hid (DA.out.below BB)
  replace HO := Lib.hid (heap_below BB HO.out)
  replace DO := Lib.hid (DO.out.below BB)
  replace HR := Lib.hid (heap_below BB HR.out)
  replace DR := Lib.hid (DR.out.below BB)
  replace HN := Lib.hid (heap_below BB HN.out)
  replace DN := Lib.hid (DN.out.below BB)
  replace HI := Lib.hid (heap_below BB HI.out)
  replace DI := Lib.hid (DI.out.below BB)
  replace HV := Lib.hid (heap_below BB HV.out)
  replace DV := Lib.hid (DV.out.below BB)
  replace HS := Lib.hid (heap_below BB HS.out)
  replace DS := Lib.hid (DS.out.below BB)
  replace NP := Lib.hid (NP.out.below BB)
  replace NQ := Lib.hid (NQ.out.below BB)
  replace BW := Lib.hid (BW.out.trans (BB.mono BW.out.size))
  clear BB hb hh Bb eb hbb
  clear zP zQ
  obtain ⟨w41, bb, eb, hbb, -, hh, Bb⟩ := laid w40 #[.int .i64 0, .int .i64 0, .int .i64 1] 44
  have DB : DgAt w41 NoB (.agg #[.slice (some ⟨bb, 0, none⟩) 1 1, .int .i64 1]) ⟨[⟨0, 0, 1⟩], 1⟩ := dg_of_block (ns := [⟨0, 0, 1⟩]) hh (in_of _ (by decide) (by decide)) (by decide)
  have C := check_bad DB bad2 (by decide)
  go_wp2_with (fail)
  refine C.mono ?_
  rintro e w42 ⟨rfl, hb⟩
  have BB := Bb.trans (hb.mono Bb.size)
  clear C DB
  replace HX := Lib.hid (heap_below BB HX.out)
  replace DX := Lib.hid (DX.out.below BB)
  replace HY := Lib.hid (heap_below BB HY.out)
  replace DY := Lib.hid (DY.out.below BB)
  replace HA := Lib.hid (heap_below BB HA.out)
  replace DA := Lib.hid (DA.out.below BB)
  replace HO := Lib.hid (heap_below BB HO.out)
  replace DO := Lib.hid (DO.out.below BB)
  replace HR := Lib.hid (heap_below BB HR.out)
  replace DR := Lib.hid (DR.out.below BB)
  replace HN := Lib.hid (heap_below BB HN.out)
  replace DN := Lib.hid (DN.out.below BB)
  replace HI := Lib.hid (heap_below BB HI.out)
  replace DI := Lib.hid (DI.out.below BB)
  replace HV := Lib.hid (heap_below BB HV.out)
  replace DV := Lib.hid (DV.out.below BB)
  replace HS := Lib.hid (heap_below BB HS.out)
  replace DS := Lib.hid (DS.out.below BB)
  replace NP := Lib.hid (NP.out.below BB)
  replace NQ := Lib.hid (NQ.out.below BB)
  replace BW := Lib.hid (BW.out.trans (BB.mono BW.out.size))
  clear BB hb hh Bb eb hbb
  obtain ⟨p0O, p1O⟩ := box2 HO.out
  go_wp2_with (fail)
  clear p0O p1O
  refine (holds_k DO.out 2 (by omega) true (by decide)).mono ?_
  rintro e w43 ⟨rfl, hb43⟩
  replace HX := Lib.hid (heap_below hb43 HX.out)
  replace DX := Lib.hid (DX.out.below hb43)
  replace HY := Lib.hid (heap_below hb43 HY.out)
  replace DY := Lib.hid (DY.out.below hb43)
  replace HA := Lib.hid (heap_below hb43 HA.out)
  replace DA := Lib.hid (DA.out.below hb43)
  replace HO := Lib.hid (heap_below hb43 HO.out)
  replace DO := Lib.hid (DO.out.below hb43)
  replace HR := Lib.hid (heap_below hb43 HR.out)
  replace DR := Lib.hid (DR.out.below hb43)
  replace HN := Lib.hid (heap_below hb43 HN.out)
  replace DN := Lib.hid (DN.out.below hb43)
  replace HI := Lib.hid (heap_below hb43 HI.out)
  replace DI := Lib.hid (DI.out.below hb43)
  replace HV := Lib.hid (heap_below hb43 HV.out)
  replace DV := Lib.hid (DV.out.below hb43)
  replace HS := Lib.hid (heap_below hb43 HS.out)
  replace DS := Lib.hid (DS.out.below hb43)
  replace NP := Lib.hid (NP.out.below hb43)
  replace NQ := Lib.hid (NQ.out.below hb43)
  replace BW := Lib.hid (BW.out.trans (hb43.mono BW.out.size))
  clear hb43
  obtain ⟨p0A, p1A⟩ := box2 HA.out
  go_wp2_with (fail)
  clear p0A p1A
  refine (holds_k DA.out 2 (by omega) false (by decide)).mono ?_
  rintro e w44 ⟨rfl, hb44⟩
  replace HX := Lib.hid (heap_below hb44 HX.out)
  replace DX := Lib.hid (DX.out.below hb44)
  replace HY := Lib.hid (heap_below hb44 HY.out)
  replace DY := Lib.hid (DY.out.below hb44)
  replace HA := Lib.hid (heap_below hb44 HA.out)
  replace DA := Lib.hid (DA.out.below hb44)
  replace HO := Lib.hid (heap_below hb44 HO.out)
  replace DO := Lib.hid (DO.out.below hb44)
  replace HR := Lib.hid (heap_below hb44 HR.out)
  replace DR := Lib.hid (DR.out.below hb44)
  replace HN := Lib.hid (heap_below hb44 HN.out)
  replace DN := Lib.hid (DN.out.below hb44)
  replace HI := Lib.hid (heap_below hb44 HI.out)
  replace DI := Lib.hid (DI.out.below hb44)
  replace HV := Lib.hid (heap_below hb44 HV.out)
  replace DV := Lib.hid (DV.out.below hb44)
  replace HS := Lib.hid (heap_below hb44 HS.out)
  replace DS := Lib.hid (DS.out.below hb44)
  replace NP := Lib.hid (NP.out.below hb44)
  replace NQ := Lib.hid (NQ.out.below hb44)
  replace BW := Lib.hid (BW.out.trans (hb44.mono BW.out.size))
  clear hb44
  go_wp2_with (fail)
  go_ret
  exact ⟨by rfl, BW.out⟩

end Go.Proofs.Ytohmibmakelclaa
