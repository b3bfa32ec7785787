/-
  The operations' own bytes: Data.
  No condition.
-/
import Derived.Test.YthnolhcknhhipaaDkPuts
namespace Go.Proofs.Ythnolhcknhhipaa
set_option linter.unusedVariables false
set_option linter.unusedSimpArgs false
open Go.RowKit

def OpD.dlen (x : OpD) : Nat := (min (max (wrap64 (64 + x.long)) 0) 70).toNat
def OpD.data (x : OpD) : List Int := (List.range x.dlen).map fun i : Nat => (x.byte + (i : Int)) % 256
theorem OpD.data_length (x : OpD) : x.data.length = x.dlen := by simp [OpD.data]
theorem OpD.dlen_le (x : OpD) : x.dlen ≤ 70 := by unfold OpD.dlen; omega

theorem ByteBlock.set {w : World} {b : Nat} {xs : List Int} (h : ByteBlock w b xs) (j : Nat) (x : Int) : ByteBlock (w.setCell ⟨b, j, none⟩ (.int .u8 x)) b (xs.set j x) := by
  show _ = _
  rw [heap_setCell_same w b j _ _ _ h]
  congr 2
  apply Array.ext'
  simp only [Array.toList_setIfInBounds]
  rw [← List.map_set (f := Value.int .u8) (a := x)]

/-- An operation as a value. -/
abbrev OpD.val (x : OpD) (K : Value) : Value := .agg #[.int .u8 x.kind, .int .i64 x.pos, .int .u8 x.byte, .int .i64 x.long, K]

theorem fill_step (L : List Int) (j : Nat) (hj : j < L.length) (z : Int) : (L.take j ++ List.replicate (L.length - j) z).set j L[j] = L.take (j + 1) ++ List.replicate (L.length - (j + 1)) z := by
  rw [List.set_append_right _ _ (by simp; omega), take_snoc' _ _ hj, List.append_assoc]
  congr 1
  have : L.length - j = (L.length - (j + 1)) + 1 := by omega
  simp only [List.length_take]
  rw [this, List.replicate_succ, show j - min j L.length = 0 by omega]
  rfl

set_option maxHeartbeats 1000000 in
theorem data_any (w : World) (x : OpD) (ok : x.Ok) (K : Value) :
    Calls Try.prog 28 #[x.val K] w fun e w' => ∃ b, e = .returned (.slice (some ⟨b, 0, none⟩) x.dlen x.dlen) ∧ ByteBlock w' b x.data ∧ Below w.heap.size w w' ∧ w.heap.size ≤ b := by
  obtain ⟨i0, hi, hz0, hz1, hz2⟩ := info_parts infobyte
  have l0 := ok.l0
  have l1 := ok.l1
  have y0 := ok.b0
  have y1 := ok.b1
  unfold OpD.val
  have dl : (x.dlen : Int) = min (max (wrap64 (64 + x.long)) 0) 70 := by
    show (((min (max (wrap64 (64 + x.long)) 0) 70).toNat : Nat) : Int) = _
    omega
  have dle : x.dlen ≤ 70 := x.dlen_le
  have XL := Lib.hid x.data_length
  have XG : Hid (∀ j (hj : j < x.data.length), x.data[j] = (x.byte + (j : Int)) % 256) := by intro j hj; simp [OpD.data]
  go_enter Try.func28, Try.ntmps28
  go_wp2_with (at_make; refine wpList_make_full _ rfl _ _ 26 rfl 0 5 i0 (.int .u8 0) 1 Try.underlying26 hi hz0 hz1 _ _ _ _ x.dlen rfl rfl (by omega) (by omega) (by rw [hz2]; omega) (by unfold maxLen; omega) (Nat.zero_le _) ?_)
  all_goals
    intro w1 hown hg
    obtain ⟨g, hgq⟩ : ∃ g, w.heap.size = g := ⟨_, rfl⟩
    have hblk : Hid (ByteBlock w1 (w.heap.size + 1) (x.data.take 0 ++ List.replicate (x.data.length - 0) 0)) := by
      show _ = _
      rw [ownsRow_full hown, toList_madeCells_one, XL.out]; simp
    have hbel : Hid (Below w.heap.size w w1) := ((Below.refl _ _).alloc (Nat.le_refl _) _).grown hg (by simp) (by intro k hk; cases hk)
    have hcell : Hid (w1.cell? ⟨w.heap.size, 2, none⟩ = some (.int .u8 x.byte)) := by
      have h0 : (w.alloc (.cells #[.int .u8 x.kind, .int .i64 x.pos, .int .u8 x.byte, .int .i64 x.long, K] 40)).cell? ⟨w.heap.size, 2, none⟩ = some (.int .u8 x.byte) := by
        rw [World.cell?_alloc_at _ _ _ _ rfl]; rfl
      show _ = _
      rw [World.cell?_of_block (hg.block w.heap.size (by simp) (by simp))]; exact h0
    rw [hgq] at hblk hcell ⊢
    have HG := Lib.hid hgq
    clear hown hg hgq dl l0 l1
    try clear h
    go_wp2_with (fail)
    go_loopw [4] (fun i wr => ∃ j : Nat, j ≤ x.dlen ∧ i = .int .i64 j ∧ Hid (ByteBlock wr (g + 1) (x.data.take j ++ List.replicate (x.data.length - j) 0)) ∧ Hid (Step (fun k => k = g + 1) w1 (fun k => k = g + 1) wr)) (fun i _ => x.dlen - (intOf i).toNat)
    case atStart => exact ⟨0, by omega, rfl, hblk, Step.refl _ _⟩
    case round =>
      clear hblk
      obtain ⟨j, hj, rfl, RB, RW⟩ := hrel
      by_cases hlt : j < x.dlen
      · have hlx : (x.data.take j ++ List.replicate (x.data.length - j) (0 : Int)).length = x.dlen := by have := XL.out; simp; omega
        have hc := RB.out.cell j (by rw [hlx]; exact hlt)
        have hc' : wr.cell? ⟨g + 1, j, none⟩ = some (.int .u8 0) := by
          rw [hc]; congr 2
          have := XL.out
          rw [List.getElem_append_right (by simp; omega)]
          simp
        have hf := RB.out.froz j
        have hb := RW.out.cell (p := ⟨g, 2, none⟩) (by show g ≠ g + 1; omega) hcell.out
        have hj0 : (0 : Int) ≤ (j : Int) := by omega
        have hj1 : (j : Int) < (x.dlen : Int) := by omega
        have hj2 : (j : Int) ≤ 70 := by omega
        clear hc hlx
        go_wp2_with (fail)
        have R1 : Hid (ByteBlock (wr.setCell ⟨g + 1, j, none⟩ (.int .u8 ((x.byte + (j : Int)) % 256))) (g + 1) (x.data.take (j + 1) ++ List.replicate (x.data.length - (j + 1)) 0)) := by
          have h1 : j < x.data.length := by rw [XL.out]; exact hlt
          have := RB.out.set j ((x.byte + (j : Int)) % 256)
          rw [← XG.out j h1, fill_step x.data j h1] at this
          rw [← XG.out j h1]; exact this
        have R2 : Hid (Step (fun k => k = g + 1) w1 (fun k => k = g + 1) (wr.setCell ⟨g + 1, j, none⟩ (.int .u8 ((x.byte + (j : Int)) % 256)))) := RW.out.setCell (.inl rfl) _
        go_roundw
        case rel => exact ⟨j + 1, by omega, by go_num, R1, R2⟩
        case measure => simp [intOf]; omega
      · obtain rfl : j = x.dlen := by omega
        have RB' : Hid (ByteBlock wr (g + 1) x.data) := by
          have := RB.out
          have h2 := XL.out
          rw [List.take_of_length_le (by omega), show x.data.length - x.dlen = 0 by omega, List.replicate_zero, List.append_nil] at this
          exact this
        clear RB
        go_wp2_with (fail)
        go_ret
        exact ⟨_, rfl, RB'.out, ⟨RW.out.os.trans hbel.out.os, RW.out.tape.trans hbel.out.tape, RW.out.output.trans hbel.out.output, Nat.le_trans hbel.out.size RW.out.size, fun k hk => (RW.out.block k (Nat.lt_of_lt_of_le hk hbel.out.size) (by have := HG.out; omega)).trans (hbel.out.block k hk)⟩, by have := HG.out; omega⟩

end Go.Proofs.Ythnolhcknhhipaa
