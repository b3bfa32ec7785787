/-
  Four slices of bytes in one array, as a law builds them.
  No condition.
-/
import Derived.Test.YthnolhcknhhipaaDkPuts
import Derived.Test.YthnolhcknhhipaaDkSanity
namespace Go.Proofs.Ythnolhcknhhipaa
set_option linter.unusedVariables false
set_option linter.unusedSimpArgs false
open Go.RowKit

/-- The array at block B holds four slices of bytes, in rows of their own, away from M; all from lo on. -/
structure Four (w : World) (lo : Nat) (M : Nat → Prop) (B : Nat) (L : Nat → List Int) (f : Nat → Value) : Prop where
  blk : w.heap[B]? = some (.cells #[f 0, f 1, f 2, f 3] 38 (0, 0))
  row : ∀ q, q < 4 → w.ownsRow lo 5 1 (f q) (L q).length ((L q).map (.int .u8))
  own : ∀ q, q < 4 → ∀ b, (f q).ownBlock = some b → b ≠ B ∧ ¬ M b
  apart : ∀ q r, q < 4 → r < 4 → ∀ b, (f q).ownBlock = some b → (f r).ownBlock = some b → q = r
  nB : ¬ M B
  lo : lo ≤ B

theorem Four.lt {w : World} {lo : Nat} {M : Nat → Prop} {B : Nat} {L : Nat → List Int} {f : Nat → Value} (h : Four w lo M B L f) : B < w.heap.size := by
  have := h.blk; rw [Array.getElem?_eq_some_iff] at this; exact this.1

theorem Four.start {w : World} {M : Nat → Prop} (lo : Nat) (hlo : lo ≤ w.heap.size) (hM : ∀ k, M k → k < w.heap.size) :
    Four (w.alloc (.cells #[.slice none 0 0, .slice none 0 0, .slice none 0 0, .slice none 0 0] 38)) lo M w.heap.size (fun _ => []) (fun _ => .slice none 0 0) :=
  ⟨heap_alloc_new w _, fun q _ => World.ownsRow_nil _ _ _ _, fun q _ b hb => by simp [Value.ownBlock] at hb, fun q r _ _ b hb => by simp [Value.ownBlock] at hb, fun h => by have := hM _ h; omega, hlo⟩

theorem Four.cell {w : World} {lo : Nat} {M : Nat → Prop} {B : Nat} {L : Nat → List Int} {f : Nat → Value} (h : Four w lo M B L f) (q : Nat) (hq : q < 4) : w.cell? ⟨B, q, none⟩ = some (f q) ∧ w.frozen? ⟨B, q, none⟩ = false := by
  have : q = 0 ∨ q = 1 ∨ q = 2 ∨ q = 3 := by omega
  rcases this with rfl | rfl | rfl | rfl <;> simp [World.cell?, World.frozen?, h.blk]

theorem Four.step {w w' : World} {lo : Nat} {M M' : Nat → Prop} {B : Nat} {L : Nat → List Int} {f : Nat → Value} (h : Four w lo M B L f) (hs : Step M w M' w') : Four w' lo M' B L f :=
  ⟨(hs.block B h.lt h.nB).trans h.blk, fun q hq => ownsRow_of_block (h.row q hq) (fun b hb => hs.block b ((h.row q hq).lt b hb).2 (h.own q hq b hb).2),
   fun q hq b hb => ⟨(h.own q hq b hb).1, hs.away ((h.row q hq).lt b hb).2 (h.own q hq b hb).2⟩, h.apart, hs.away h.lt h.nB, h.lo⟩

/-- One slice has grown, and is stored back. -/
theorem Four.put {w w3 : World} {lo : Nat} {M : Nat → Prop} {B : Nat} {L : Nat → List Int} {f : Nat → Value} (h : Four w lo M B L f) (hM : ∀ k, M k → k < w.heap.size) (k : Nat) (hk : k < 4) (u : Value) (ys : List Int)
    (hg : w.grownBy w3 (f k).ownBlock) (hr : w3.ownsRow lo 5 1 u ys.length (ys.map (.int .u8))) (hu : ∀ b, u.ownBlock = some b → (f k).ownBlock = some b ∨ w.heap.size ≤ b) :
    Four (w3.setCell ⟨B, k, none⟩ u) lo M B (fun q => if q = k then ys else L q) (fun q => if q = k then u else f q) := by
  have hB : w3.heap[B]? = w.heap[B]? := hg.block B h.lt (fun e => (h.own k hk B e.symm).1 rfl)
  have ho : ∀ b, b ≠ B → (w3.setCell ⟨B, k, none⟩ u).heap[b]? = w3.heap[b]? := fun b hb => heap_setCell_other w3 ⟨B, k, none⟩ b u hb
  have huB : ∀ b, u.ownBlock = some b → b ≠ B ∧ ¬ M b := fun b hb => by
    rcases hu b hb with h1 | h1
    · exact h.own k hk b h1
    · have := h.lt
      exact ⟨by omega, fun hm => by have := hM b hm; omega⟩
  have hrow : ∀ q, q < 4 → q ≠ k → ∀ b, (f q).ownBlock = some b → w3.heap[b]? = w.heap[b]? := fun q hq hqk b hb =>
    hg.block b ((h.row q hq).lt b hb).2 (fun e => hqk (h.apart q k hq hk b hb e.symm))
  refine ⟨?_, fun q hq => ?_, fun q hq b hb => ?_, fun q r hq hr b hb hb' => ?_, h.nB, h.lo⟩
  · rw [heap_setCell_same w3 B k _ _ u (hB.trans h.blk)]
    have : k = 0 ∨ k = 1 ∨ k = 2 ∨ k = 3 := by omega
    rcases this with rfl | rfl | rfl | rfl <;> rfl
  · by_cases hqk : q = k
    · subst hqk
      simp only [if_true]
      exact ownsRow_of_block hr (fun b hb => ho b (huB b hb).1)
    · simp only [if_neg hqk]
      exact ownsRow_of_block (h.row q hq) (fun b hb => (ho b (h.own q hq b hb).1).trans (hrow q hq hqk b hb))
  · by_cases hqk : q = k
    · simp only [if_pos hqk] at hb; exact huB b hb
    · simp only [if_neg hqk] at hb; exact h.own q hq b hb
  · by_cases hqk : q = k <;> by_cases hrk : r = k
    · omega
    · simp only [if_pos hqk] at hb; simp only [if_neg hrk] at hb'
      exfalso
      rcases hu b hb with h1 | h1
      · exact hrk (h.apart r k hr hk b hb' h1)
      · have := ((h.row r hr).lt b hb').2; omega
    · simp only [if_neg hqk] at hb; simp only [if_pos hrk] at hb'
      exfalso
      rcases hu b hb' with h1 | h1
      · exact hqk (h.apart q k hq hk b hb h1)
      · have := ((h.row q hq).lt b hb).2; omega
    · simp only [if_neg hqk] at hb; simp only [if_neg hrk] at hb'
      exact h.apart q r hq hr b hb hb'

/-- Work beside the disks. -/
theorem Disks.aside {w w' : World} {B : Nat} {M A A' : Nat → Prop} {L : List (Nat × DS)} (h : Disks w B M L) (hs : Step A w A' w') (hA : ∀ k, M k → ¬ A k) : Disks w' B M L := by
  obtain ⟨h0, h1, Fs, h2, h3, h4⟩ := h
  exact ⟨Nat.le_trans h0 hs.size, fun k hk => ⟨(h1 k hk).1, Nat.lt_of_lt_of_le (h1 k hk).2 hs.size⟩, Fs, fun i hi => (h2 i hi).step hs (fun k hk => hA k (h4 i k hi hk)), h3, h4⟩

end Go.Proofs.Ythnolhcknhhipaa
