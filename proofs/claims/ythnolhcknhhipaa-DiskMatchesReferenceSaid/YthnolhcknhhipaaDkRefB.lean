/-
  The reference's helper first.
  No condition.
-/
import Derived.Test.YthnolhcknhhipaaDkRefA
namespace Go.Proofs.Ythnolhcknhhipaa
set_option linter.unusedVariables false
set_option linter.unusedSimpArgs false
open Go.RowKit

/-- What stands in an owned row that is not nil. -/
theorem own_some {w : World} {base size n : Nat} {e : TypeId} {v : Value} {xs : List Value} (h : w.ownsRow base e size v n xs) (hne : v.ownBlock.isSome = true) : ∃ b cap, v = .slice (some ⟨b, 0, none⟩) n cap ∧ n ≤ cap ∧ cap ≤ maxLen ∧ base ≤ b ∧ b < w.heap.size := by
  obtain ⟨ao, cap, rfl, hc, hm, -, hsh⟩ := ownsRow_shape h
  cases ao with
  | none => simp [Value.ownBlock] at hne
  | some ad =>
    obtain ⟨b, off, sp⟩ := ad
    obtain ⟨e1, e2, e3, -⟩ := hsh _ rfl
    simp only at e1 e2
    subst e1; subst e2
    exact ⟨b, cap, rfl, hc, hm, (h.lt b e3).1, (h.lt b e3).2⟩

theorem Bytes.cells {w : World} {M : Nat → Prop} {v : Value} {xs : List Int} (h : Bytes w M v xs) (hne : xs ≠ []) : ∃ b off cap, v = .slice (some ⟨b, off, none⟩) xs.length cap ∧ xs.length ≤ cap ∧ cap ≤ maxLen ∧ ∀ j u, (xs.map (Value.int .u8))[j]? = some u → w.cell? ⟨b, off + j, none⟩ = some u := by
  obtain ⟨ao, cap, rfl, hc, hm, h0, hx⟩ := h
  rcases hx with hx | ⟨b, off, rfl, -, -, h4⟩
  · exact absurd (by simpa using hx) hne
  · exact ⟨b, off, cap, rfl, hc, hm, h4⟩

set_option maxHeartbeats 1000000 in
theorem first_any (w : World) (v u : Value) (old data : List Int) (hv : Bytes w NoB v old) (hu : Bytes w NoB u data) (lo : old.length = 64) (ld : data.length = 64) (k : Nat) (hk : k ≤ 64) :
    Calls Try.prog 39 #[v, u, .int .i64 k] w fun e w' => ∃ r, e = .returned r ∧ (∀ M : Nat → Prop, (∀ b, M b → b < w.heap.size) → Bytes w' M r (data.take k ++ old.drop k)) ∧ Below w.heap.size w w' := by
  obtain ⟨i0, hi, hz0, hz1, hz2⟩ := info_parts infobyte
  obtain ⟨b1, o1, c1, rfl, hc1, hm1, hx1⟩ := hv.cells (by intro h; rw [h] at lo; simp at lo)
  obtain ⟨b2, o2, c2, rfl, hc2, hm2, hx2⟩ := hu.cells (by intro h; rw [h] at ld; simp at ld)
  rw [lo] at hc1 ⊢
  rw [ld] at hc2 ⊢
  have X1 := Lib.hid hx1; have X2 := Lib.hid hx2; have LO := Lib.hid lo; have LD := Lib.hid ld
  clear hx1 hx2 hv hu lo ld
  have hk0 : (0 : Int) ≤ (k : Int) := by omega
  have hk1 : (k : Int) ≤ 64 := by omega
  have hk2 : (k : Int) ≤ (c2 : Int) := by omega
  have hk3 : (64 : Int) ≤ (c1 : Int) := by omega
  have R0 : Hid ((w.alloc (.cells #[] 5)).ownsRow w.heap.size 5 1 (.slice (some ⟨w.heap.size, 0, none⟩) 0 0) 0 []) := World.ownsRow_made w #[] 0 (Nat.le_refl _) (by decide) rfl
  have B0 : Hid (Below w.heap.size w (w.alloc (.cells #[] 5))) := (Below.refl _ _).alloc (Nat.le_refl _) _
  have N2 : Hid (∀ j u, ((data.take k).map (Value.int .u8))[j]? = some u → (w.alloc (.cells #[] 5)).cell? ((⟨b2, o2, none⟩ : Addr).add j) = some u) := by
    intro j u hu
    rw [Addr.add_lit]
    refine cell_alloc (X2.out j u ?_) _
    rw [← hu, List.map_take, List.getElem?_take_of_lt]
    have := (List.getElem?_eq_some_iff.1 hu).1
    simp at this; omega
  have R0 : Hid ((w.alloc (.cells #[] 5)).ownsRow w.heap.size 5 1 (.slice (some ⟨w.heap.size, 0, none⟩) 0 0) 0 []) := World.ownsRow_made w #[] 0 (Nat.le_refl _) (by decide) rfl
  have B0 : Hid (Below w.heap.size w (w.alloc (.cells #[] 5))) := (Below.refl _ _).alloc (Nat.le_refl _) _
  have N2 : Hid (∀ j u, ((data.take k).map (Value.int .u8))[j]? = some u → (w.alloc (.cells #[] 5)).cell? ((⟨b2, o2, none⟩ : Addr).add j) = some u) := by
    intro j u hu
    rw [Addr.add_lit]
    refine cell_alloc (X2.out j u ?_) _
    rw [← hu, List.map_take, List.getElem?_take_of_lt]
    have := (List.getElem?_eq_some_iff.1 hu).1
    simp at this; omega
  have R0 : Hid ((w.alloc (.cells #[] 5)).ownsRow w.heap.size 5 1 (.slice (some ⟨w.heap.size, 0, none⟩) 0 0) 0 []) := World.ownsRow_made w #[] 0 (Nat.le_refl _) (by decide) rfl
  have B0 : Hid (Below w.heap.size w (w.alloc (.cells #[] 5))) := (Below.refl _ _).alloc (Nat.le_refl _) _
  have N2 : Hid (∀ j u, ((data.take k).map (Value.int .u8))[j]? = some u → (w.alloc (.cells #[] 5)).cell? ((⟨b2, o2, none⟩ : Addr).add j) = some u) := by
    intro j u hu
    rw [Addr.add_lit]
    refine cell_alloc (X2.out j u ?_) _
    rw [← hu, List.map_take, List.getElem?_take_of_lt]
    have := (List.getElem?_eq_some_iff.1 hu).1
    simp at this; omega
  go_enter Try.func39, Try.ntmps39
  go_wp2_with (at_builtin; refine wpList_append_any rfl (.tmp 8) (.tmp 11) 26 rfl w.heap.size 5 i0 (.int .u8 0) 1 1 Try.underlying26 hi hz0 hz1 hz2 rfl (by decide) (.slice (some ⟨w.heap.size, 0, none⟩) 0 0) 0 [] rfl R0.out rfl (some ⟨b2, o2, none⟩) k c2 ((data.take k).map (.int .u8)) rfl (fun h => by cases h) (by have := LD.out; simp; omega) (fun ad had => by cases had; exact N2.out) (ints_oneCell _ _) (by unfold maxLen; omega) (by omega) (by simp) ?_)
  intro v1 w1 hown1 hg1 hsome1
  obtain ⟨g1, cap1, rfl, -⟩ := own_some hown1 hsome1
  have O1 := Lib.hid hown1
  have B1 : Hid (Below w.heap.size w w1) := B0.out.grown hg1 (by simp) (by intro j hj; cases hj; exact Nat.le_refl _)
  have N1 : Hid (∀ j u, ((old.drop k).map (Value.int .u8))[j]? = some u → w1.cell? ((⟨b1, o1 + k, none⟩ : Addr).add j) = some u) := by
    intro j u hu
    rw [Addr.add_lit]
    have h1 := X1.out (k + j) u (by rw [← hu, List.map_drop, List.getElem?_drop])
    rw [Nat.add_assoc]
    exact cell_below B1.out h1
  clear hown1 hg1 hsome1 R0 B0 N2
  by_cases hck : c1 = k
  · obtain rfl : k = 64 := by omega
    subst hck
    have O1' : Hid (w1.ownsRow w.heap.size 5 1 (.slice (some ⟨g1, 0, none⟩) 64 cap1) 64 ((data.take 64).map (.int .u8))) := by have := O1.out; show World.ownsRow _ _ _ _ _ _ _; simpa using this
    have N1' : Hid (∀ j u, ((old.drop 64).map (Value.int .u8))[j]? = some u → w1.cell? ((⟨b1, o1, none⟩ : Addr).add j) = some u) := by
      intro j u hu
      rw [List.drop_of_length_le (by rw [LO.out]; exact Nat.le_refl 64)] at hu
      simp at hu
    clear hk0 hk1 hk2 hk3
    go_wp2_with (at_builtin; refine wpList_append_any rfl (.tmp 13) (.tmp 16) 26 rfl w.heap.size 5 i0 (.int .u8 0) 1 1 Try.underlying26 hi hz0 hz1 hz2 rfl (by decide) (.slice (some ⟨g1, 0, none⟩) 64 cap1) 64 ((data.take 64).map (.int .u8)) rfl O1'.out rfl (some ⟨b1, o1, none⟩) 0 0 ((old.drop 64).map (.int .u8)) rfl (fun h => by cases h) (by have := LO.out; simp; omega) (fun ad had => by cases had; exact N1'.out) (ints_oneCell _ _) (by unfold maxLen; omega) (by omega) B1.out.size ?_)
    intro v2 w2 hown2 hg2 hsome2
    have BY : Hid (∀ M : Nat → Prop, (∀ b, M b → b < w.heap.size) → Bytes w2 M v2 (data.take 64 ++ old.drop 64)) := by
      intro M hM
      refine bytes_of_own (n := 64) (base := w.heap.size) ?_ (by have := LO.out; have := LD.out; simp; omega) (fun b hb hm => by have := (hown2.lt b hb).1; have := hM b hm; omega)
      have := hown2
      simp only [List.map_append, List.map_take, List.map_drop]
      exact this
    have B2 : Hid (Below w.heap.size w w2) := B1.out.grown hg2 B1.out.size (by intro j hj; exact (O1.out.lt j hj).1)
    clear hown2 hg2 hsome2 O1 O1' N1' N1 B1
    go_wp2_with (fail)
    go_ret
    exact ⟨_, rfl, BY.out, B2.out⟩
  · have O1' : Hid (w1.ownsRow w.heap.size 5 1 (.slice (some ⟨g1, 0, none⟩) k cap1) k ((data.take k).map (.int .u8))) := by have := O1.out; show World.ownsRow _ _ _ _ _ _ _; simpa using this
    have N1' := N1
    go_wp2_with (at_builtin; refine wpList_append_any rfl (.tmp 13) (.tmp 16) 26 rfl w.heap.size 5 i0 (.int .u8 0) 1 1 Try.underlying26 hi hz0 hz1 hz2 rfl (by decide) (.slice (some ⟨g1, 0, none⟩) k cap1) k ((data.take k).map (.int .u8)) rfl O1'.out rfl (some ⟨b1, o1 + k, none⟩) (64 - k) (c1 - k) ((old.drop k).map (.int .u8)) rfl (fun h => by cases h) (by have := LO.out; simp; omega) (fun ad had => by cases had; exact N1'.out) (ints_oneCell _ _) (by unfold maxLen; omega) (by omega) B1.out.size ?_)
    intro v2 w2 hown2 hg2 hsome2
    have BY : Hid (∀ M : Nat → Prop, (∀ b, M b → b < w.heap.size) → Bytes w2 M v2 (data.take k ++ old.drop k)) := by
      intro M hM
      refine bytes_of_own (n := 64) (base := w.heap.size) ?_ (by have := LO.out; have := LD.out; simp; omega) (fun b hb hm => by have := (hown2.lt b hb).1; have := hM b hm; omega)
      have := hown2
      simp only [List.map_append, List.map_take, List.map_drop]
      exact this
    have B2 : Hid (Below w.heap.size w w2) := B1.out.grown hg2 B1.out.size (by intro j hj; exact (O1.out.lt j hj).1)
    clear hown2 hg2 hsome2 O1 O1' N1' N1 B1
    go_wp2_with (fail)
    go_ret
    exact ⟨_, rfl, BY.out, B2.out⟩

end Go.Proofs.Ythnolhcknhhipaa
