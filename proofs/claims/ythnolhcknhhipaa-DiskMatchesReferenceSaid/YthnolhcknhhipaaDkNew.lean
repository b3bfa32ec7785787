/-
  The disk's New.
  No condition.
-/
import Derived.Test.YthnolhcknhhipaaDkClone
namespace Go.Proofs.Ythnolhcknhhipaa
set_option linter.unusedVariables false
set_option linter.unusedSimpArgs false
open Go.RowKit

set_option maxHeartbeats 400000 in
theorem new_small (w : World) (x : Int) (h : x < 1) :
    Calls Try.prog 21 #[.int .i64 x] w fun e w' => e = .returned (.tuple #[.pointer none, .int .i64 1]) ∧ w = w' := by
  go_enter Try.func21, Try.ntmps21
  go_wp2
  go_ret2
  exact ⟨rfl, rfl⟩

set_option maxHeartbeats 400000 in
theorem new_large (w : World) (x : Int) (h : 65536 < x) :
    Calls Try.prog 21 #[.int .i64 x] w fun e w' => e = .returned (.tuple #[.pointer none, .int .i64 2]) ∧ w = w' := by
  go_enter Try.func21, Try.ntmps21
  go_wp2
  go_ret2
  exact ⟨rfl, rfl⟩

/-- An empty disk. -/
def DS.new (n : Nat) : DS := { dur := List.replicate (64 * n) 0, wr := [], down := false, fuse := 0, kept := [] }

theorem DS.new_ok {n : Nat} (h1 : 1 ≤ n) (h2 : n ≤ 65536) : (DS.new n).Ok n :=
  ⟨by simp [DS.new], h1, h2, by simp [DS.new], by simp [DS.new], by simp [DS.new], by simp [DS.new]⟩

set_option maxHeartbeats 400000 in
theorem new_any (w : World) (n : Nat) (h1 : 1 ≤ n) (h2 : n ≤ 65536) :
    Calls Try.prog 21 #[.int .i64 n] w fun e w' => ∃ g, e = .returned (.tuple #[.pointer (some ⟨g, 0, none⟩), .int .i64 0]) ∧
      ∃ F, DiskAt w' F g (DS.new n) ∧ Below w.heap.size w w' ∧ (∀ k, F k → w.heap.size ≤ k) := by
  obtain ⟨i0, hi, hz0, hz1, hz2⟩ := info_parts infobyte
  go_enter Try.func21, Try.ntmps21
  go_wp2_with (at_make; refine wpList_make_full _ rfl _ _ 26 rfl 0 5 i0 (.int .u8 0) 1 Try.underlying26 hi hz0 hz1 _ _ _ _ (64 * n) rfl rfl (by omega) (by omega) ?c1 ?c2 (Nat.zero_le _) ?c3)
  case c1 => rw [hz2]; omega
  case c2 => unfold maxLen; omega
  case c3 =>
    intro w1 hown hg
    have O := Lib.hid hown; clear hown
    have G := Lib.hid hg; clear hg
    go_wp2
    go_ret2
    have hlt := (O.out.lt w.heap.size rfl).2
    have hrow : w1.ownsRow 0 5 1 (.slice (some ⟨w.heap.size, 0, none⟩) (64 * n) (64 * n)) (64 * n) ((DS.new n).dur.map (.int .u8)) := by
      have e := O.out
      have e2 : (madeCells #[Value.int .u8 0] (64 * n)).toList = (DS.new n).dur.map (.int .u8) := by rw [toList_madeCells_one]; simp [DS.new]
      rw [← e2]; exact e
    have hl : (DS.new n).dur.length = 64 * n := by simp [DS.new]
    refine ⟨w1.heap.size, rfl, fun k => k = w.heap.size ∨ k = w1.heap.size, ⟨w.heap.size, 64 * n, .slice none 0 0, .slice none 0 0, ⟨?_, ?_, World.ownsRow_nil _ _ _ _, World.ownsRow_nil _ _ _ _, .inr rfl, .inl rfl, by omega, by simp [Value.ownBlock], by simp [Value.ownBlock], ?_⟩⟩, ?_, ?_⟩
    · rw [heap_alloc_new, hl]; rfl
    · rw [hl]; exact hrow.alloc _
    · rintro k (rfl | rfl)
      · simp; omega
      · simp
    · exact ((Below.refl _ _).grown G.out (Nat.le_refl _) (by simp)).alloc (by omega) _
    · rintro k (rfl | rfl)
      · exact Nat.le_refl _
      · omega

end Go.Proofs.Ythnolhcknhhipaa
