/-
  What a read of a disk and a read of the reference return, side by side; the disks beside a block that is none of theirs.
  No condition.
-/
import Derived.Test.YthnolhcknhhipaaDkRefL
import Derived.Test.YthnolhcknhhipaaDkCopies
namespace Go.Proofs.Ythnolhcknhhipaa
set_option linter.unusedVariables false
set_option linter.unusedSimpArgs false
open Go.RowKit

theorem law_look {w : World} {B : Nat} {M : Nat → Prop} {L : List (Nat × DS)} (h : Disks w B M L) (i : Nat) {g : Nat} {s : DS} (hi : L[i]? = some (g, s)) {n : Nat} (ok : s.Ok n) (x : Int) :
    Calls Try.prog 16 #[.pointer (some ⟨g, 0, none⟩), .int .i64 x] w fun e w' => ∃ r, e = .returned (.tuple #[r, .int .i64 (s.look n x).1]) ∧ Bytes w' NoB r (s.look n x).2 ∧ Below w.heap.size w w' := by
  obtain ⟨F, hd, hF, hs⟩ := h.one i g s hi
  unfold DS.look
  by_cases hx : x < 0 ∨ (n : Int) ≤ x
  · rw [if_pos hx]
    refine (read_out w F g s n x hd ok hx).mono fun e w' ⟨he, hw⟩ => ?_
    subst hw
    exact ⟨_, he, bytes_nil _ _, Below.refl _ _⟩
  · rw [if_neg hx]
    obtain ⟨k, rfl⟩ := Int.eq_ofNat_of_zero_le (show 0 ≤ x by omega)
    cases hdn : s.down with
    | true =>
      rw [if_pos rfl]
      refine (read_down w F g s n k hd ok (by omega) hdn).mono fun e w' ⟨he, hw⟩ => ?_
      subst hw
      exact ⟨_, he, bytes_nil _ _, Below.refl _ _⟩
    | false =>
      rw [if_neg (by simp)]
      refine (read_any w F g s n k hd ok (by omega) hdn).mono fun e w' ⟨b, he, h1, h2, h3⟩ => ?_
      have hl : (s.read k).length = 64 := DS.read_length ok (by omega)
      exact ⟨_, he, h1.bytes64 (fun h => h) hl, h2⟩

/-- The disks, where other blocks are written. -/
theorem Disks.aside {w w' : World} {B : Nat} {M F F' : Nat → Prop} {L : List (Nat × DS)} (h : Disks w B M L) (hs : Step F w F' w') (hF : ∀ k, F k → ¬ M k) : Disks w' B M L := by
  obtain ⟨h0, h1, Fs, h2, h3, h4⟩ := h
  exact ⟨Nat.le_trans h0 hs.size, fun k hk => ⟨(h1 k hk).1, Nat.lt_of_lt_of_le (h1 k hk).2 hs.size⟩, Fs, fun i hi => (h2 i hi).step hs (fun k hk hf => hF k hf (h4 i k hi hk)), h3, h4⟩

/-- The call's own block b beside the blocks of the disks. -/
theorem Step.beside {M M' : Nat → Prop} {w w' : World} {b : Nat} (h : Step M w M' w') : Step (Keep M b) w (Keep M' b) w' :=
  ⟨h.os, h.tape, h.output, h.size, fun k hk hm => h.block k hk (fun hf => hm (.inl hf)), fun k hk => hk.elim (fun hf => (h.grow k hf).imp .inl id) (fun e => .inl (.inr e))⟩

end Go.Proofs.Ythnolhcknhhipaa
