/-
  slices.Clone at three types: a copy in new memory.
  Condition: the copy takes at most 2^47 bytes.
-/
import Derived.Test.YthnolhcknhhipaaDk
namespace Go.Proofs.Ythnolhcknhhipaa
set_option linter.unusedVariables false
set_option linter.unusedSimpArgs false
open Go.RowKit

theorem infobyte : (Try.prog.info? 5).map (fun i => (i.zero, i.size, i.bytes)) = some (some (.int .u8 0), 1, 1) := by kernel_rfl

set_option maxHeartbeats 400000 in
/-- A copy of a slice: new memory. -/
theorem clone_byte (w : World) (ao : Option Addr) (n cap : Nat) (xs : List Value) (hx : xs.length = n * 1) (h0 : ao = none → n = 0 ∧ cap = 0) (hc : ∀ ad, ao = some ad → ∀ j u, xs[j]? = some u → w.cell? (ad.add j) = some u)
    (h1 : ∀ u ∈ xs, u.oneCell' = true) (hb : n * 1 ≤ 140737488355328) :
    Calls Try.prog 35 #[.slice ao n cap] w fun e w' => ∃ a' c', e = .returned (.slice a' n c') ∧ Below w.heap.size w w' ∧ w'.ownsRow 0 5 1 (.slice a' n c') n xs ∧ (∀ b, (Value.slice a' n c').ownBlock = some b → w.heap.size ≤ b ∧ b < w'.heap.size) := by
  cases ao with
  | none =>
    obtain ⟨rfl, rfl⟩ := h0 rfl
    obtain rfl : xs = [] := List.eq_nil_of_length_eq_zero (by simpa using hx)
    clear hc h1 hx
    have hn := @Lib.run_eql_slice_nil
    go_enter Try.func35, Try.ntmps35
    go_wp2
    go_ret
    exact ⟨none, 0, rfl, Below.refl _ _, World.ownsRow_nil _ _ _ _, by simp [Value.ownBlock]⟩
  | some ad =>
    have hc' := hc ad rfl
    obtain ⟨i0, hi, hz0, hz1, hz2⟩ := info_parts infobyte
    have HC := Lib.hid hc'; clear hc hc' h0
    have HX := Lib.hid hx; clear hx
    have hn := @Lib.run_eql_slice_nil
    go_enter Try.func35, Try.ntmps35
    go_wp2_with (at_builtin; refine wpList_append_own _ rfl _ _ 26 rfl w.heap.size 5 i0 (.int .u8 0) 1 1 Try.underlying26 hi hz0 hz1 hz2 rfl (by decide) _ 0 [] rfl (World.ownsRow_made w #[] 0 (Nat.le_refl _) (by decide) rfl) ad n cap xs rfl HX.out ?c1 h1 ?c2 ?c3 ?c5 ?c4)
    case c1 => exact fun j u hu => cell_alloc (HC.out j u hu) _
    case c2 => unfold maxLen; omega
    case c3 => omega
    case c5 => simp
    case c4 =>
      intro v' w' hown hg _
      have hown' : w'.ownsRow w.heap.size 5 1 v' n xs := by simpa using hown
      clear hown
      obtain ⟨a', c', rfl, -⟩ := ownsRow_shape hown'
      have HO := Lib.hid hown'; clear hown'
      go_wp2
      go_ret
      exact ⟨a', c', rfl, ((Below.refl _ _).alloc (Nat.le_refl _) _).grown hg (by simp) (by intro k hk; simp [Value.ownBlock] at hk; omega), ownsRow_le HO.out (Nat.zero_le _), HO.out.lt⟩

theorem infoint : (Try.prog.info? 3).map (fun i => (i.zero, i.size, i.bytes)) = some (some (.int .i64 0), 1, 8) := by kernel_rfl

set_option maxHeartbeats 400000 in
/-- A copy of a slice: new memory. -/
theorem clone_int (w : World) (ao : Option Addr) (n cap : Nat) (xs : List Value) (hx : xs.length = n * 1) (h0 : ao = none → n = 0 ∧ cap = 0) (hc : ∀ ad, ao = some ad → ∀ j u, xs[j]? = some u → w.cell? (ad.add j) = some u)
    (h1 : ∀ u ∈ xs, u.oneCell' = true) (hb : n * 8 ≤ 140737488355328) :
    Calls Try.prog 37 #[.slice ao n cap] w fun e w' => ∃ a' c', e = .returned (.slice a' n c') ∧ Below w.heap.size w w' ∧ w'.ownsRow 0 3 1 (.slice a' n c') n xs ∧ (∀ b, (Value.slice a' n c').ownBlock = some b → w.heap.size ≤ b ∧ b < w'.heap.size) := by
  cases ao with
  | none =>
    obtain ⟨rfl, rfl⟩ := h0 rfl
    obtain rfl : xs = [] := List.eq_nil_of_length_eq_zero (by simpa using hx)
    clear hc h1 hx
    have hn := @Lib.run_eql_slice_nil
    go_enter Try.func37, Try.ntmps37
    go_wp2
    go_ret
    exact ⟨none, 0, rfl, Below.refl _ _, World.ownsRow_nil _ _ _ _, by simp [Value.ownBlock]⟩
  | some ad =>
    have hc' := hc ad rfl
    obtain ⟨i0, hi, hz0, hz1, hz2⟩ := info_parts infoint
    have HC := Lib.hid hc'; clear hc hc' h0
    have HX := Lib.hid hx; clear hx
    have hn := @Lib.run_eql_slice_nil
    go_enter Try.func37, Try.ntmps37
    go_wp2_with (at_builtin; refine wpList_append_own _ rfl _ _ 37 rfl w.heap.size 3 i0 (.int .i64 0) 1 8 Try.underlying37 hi hz0 hz1 hz2 rfl (by decide) _ 0 [] rfl (World.ownsRow_made w #[] 0 (Nat.le_refl _) (by decide) rfl) ad n cap xs rfl HX.out ?c1 h1 ?c2 ?c3 ?c5 ?c4)
    case c1 => exact fun j u hu => cell_alloc (HC.out j u hu) _
    case c2 => unfold maxLen; omega
    case c3 => omega
    case c5 => simp
    case c4 =>
      intro v' w' hown hg _
      have hown' : w'.ownsRow w.heap.size 3 1 v' n xs := by simpa using hown
      clear hown
      obtain ⟨a', c', rfl, -⟩ := ownsRow_shape hown'
      have HO := Lib.hid hown'; clear hown'
      go_wp2
      go_ret
      exact ⟨a', c', rfl, ((Below.refl _ _).alloc (Nat.le_refl _) _).grown hg (by simp) (by intro k hk; simp [Value.ownBlock] at hk; omega), ownsRow_le HO.out (Nat.zero_le _), HO.out.lt⟩

/-- The zero value of a pending write. -/
def pzero : List Value := .int .i64 0 :: List.replicate 64 (.int .u8 0)
theorem pzero_length : pzero.length = 65 := rfl

theorem infopending : (Try.prog.info? 66).map (fun i => (i.zero, i.size, i.bytes)) = some (some (.agg (pzero).toArray), 65, 72) := by kernel_rfl

set_option maxHeartbeats 400000 in
/-- A copy of a slice: new memory. -/
theorem clone_pending (w : World) (ao : Option Addr) (n cap : Nat) (xs : List Value) (hx : xs.length = n * 65) (h0 : ao = none → n = 0 ∧ cap = 0) (hc : ∀ ad, ao = some ad → ∀ j u, xs[j]? = some u → w.cell? (ad.add j) = some u)
    (h1 : ∀ u ∈ xs, u.oneCell' = true) (hb : n * 72 ≤ 140737488355328) :
    Calls Try.prog 36 #[.slice ao n cap] w fun e w' => ∃ a' c', e = .returned (.slice a' n c') ∧ Below w.heap.size w w' ∧ w'.ownsRow 0 66 65 (.slice a' n c') n xs ∧ (∀ b, (Value.slice a' n c').ownBlock = some b → w.heap.size ≤ b ∧ b < w'.heap.size) := by
  cases ao with
  | none =>
    obtain ⟨rfl, rfl⟩ := h0 rfl
    obtain rfl : xs = [] := List.eq_nil_of_length_eq_zero (by simpa using hx)
    clear hc h1 hx
    have hn := @Lib.run_eql_slice_nil
    go_enter Try.func36, Try.ntmps36
    go_wp2
    go_ret
    exact ⟨none, 0, rfl, Below.refl _ _, World.ownsRow_nil _ _ _ _, by simp [Value.ownBlock]⟩
  | some ad =>
    have hc' := hc ad rfl
    obtain ⟨i0, hi, hz0, hz1, hz2⟩ := info_parts infopending
    have HC := Lib.hid hc'; clear hc hc' h0
    have HX := Lib.hid hx; clear hx
    have hn := @Lib.run_eql_slice_nil
    go_enter Try.func36, Try.ntmps36
    go_wp2_with (at_builtin; refine wpList_append_own _ rfl _ _ 61 rfl w.heap.size 66 i0 (.agg (pzero).toArray) 65 72 Try.underlying61 hi hz0 hz1 hz2 rfl (by decide) _ 0 [] rfl (World.ownsRow_made w #[] 0 (Nat.le_refl _) (by decide) rfl) ad n cap xs rfl HX.out ?c1 h1 ?c2 ?c3 ?c5 ?c4)
    case c1 => exact fun j u hu => cell_alloc (HC.out j u hu) _
    case c2 => unfold maxLen; omega
    case c3 => omega
    case c5 => simp
    case c4 =>
      intro v' w' hown hg _
      have hown' : w'.ownsRow w.heap.size 66 65 v' n xs := by simpa using hown
      clear hown
      obtain ⟨a', c', rfl, -⟩ := ownsRow_shape hown'
      have HO := Lib.hid hown'; clear hown'
      go_wp2
      go_ret
      exact ⟨a', c', rfl, ((Below.refl _ _).alloc (Nat.le_refl _) _).grown hg (by simp) (by intro k hk; simp [Value.ownBlock] at hk; omega), ownsRow_le HO.out (Nat.zero_le _), HO.out.lt⟩

end Go.Proofs.Ythnolhcknhhipaa
