/-
  The reference's Read.
  No condition.
-/
import Derived.Test.YthnolhcknhhipaaDkRefB
namespace Go.Proofs.Ythnolhcknhhipaa
set_option linter.unusedVariables false
set_option linter.unusedSimpArgs false
open Go.RowKit

/-- What a read returns. -/
def DS.look (n : Nat) (s : DS) (x : Int) : Int × List Int := if x < 0 ∨ (n : Int) ≤ x then (1, []) else if s.down then (340, []) else (0, s.read x.toNat)

theorem sects_length (dur : List Int) (n : Nat) : (sects dur n).length = n := by simp [sects]
theorem sects_get (dur : List Int) (n i : Nat) (h : i < (sects dur n).length) : (sects dur n)[i] = sect dur i := by simp [sects]

theorem bytes_nil (w : World) (M : Nat → Prop) : Bytes w M (.slice none 0 0) [] := ⟨none, 0, rfl, Nat.le_refl _, by simp [maxLen], fun _ => ⟨rfl, rfl⟩, .inl rfl⟩

/-- The cells of a boxed state. -/
theorem box_cells {w0 : World} {bx : Nat} {C W K : Value} {d : Bool} {f : Int} (h : w0.heap[bx]? = some (.cells #[C, W, .bool d, .int .i64 f, K] 48 (0, 0))) :
    w0.cell? ⟨bx, 0, none⟩ = some C ∧ w0.cell? ⟨bx, 1, none⟩ = some W ∧ w0.cell? ⟨bx, 2, none⟩ = some (.bool d) ∧ w0.cell? ⟨bx, 3, none⟩ = some (.int .i64 f) ∧ w0.cell? ⟨bx, 4, none⟩ = some K :=
  ⟨by rw [cell_of_row w0 bx 0 _ _ _ h]; rfl, by rw [cell_of_row w0 bx 1 _ _ _ h]; rfl, by rw [cell_of_row w0 bx 2 _ _ _ h]; rfl, by rw [cell_of_row w0 bx 3 _ _ _ h]; rfl, by rw [cell_of_row w0 bx 4 _ _ _ h]; rfl⟩

set_option maxRecDepth 100000 in
set_option maxHeartbeats 2000000 in
theorem refread_any (w : World) (n : Nat) (v : Value) (s : DS) (h : RefAt w NoB n v s) (ok : s.Ok n) (x : Int) (hx0 : -9223372036854775808 ≤ x) (hx1 : x ≤ 9223372036854775807) :
    Calls Try.prog 26 #[v, .int .i64 x] w fun e w' => ∃ r, e = .returned (.tuple #[r, .int .i64 (s.look n x).1]) ∧ Bytes w' NoB r (s.look n x).2 ∧ Below w.heap.size w w' := by
  obtain ⟨C, W, K, rfl, hC, hW, hK⟩ := h
  obtain ⟨w0, hw0q⟩ : ∃ w0, w.alloc (.cells #[C, W, .bool s.down, .int .i64 s.fuse, K] 48) = w0 := ⟨_, rfl⟩
  obtain ⟨bx, hbx⟩ : ∃ bx, w.heap.size = bx := ⟨_, rfl⟩
  have hB := heap_alloc_new w (.cells #[C, W, .bool s.down, .int .i64 s.fuse, K] 48)
  have hb0 : Below w.heap.size w (w.alloc (.cells #[C, W, .bool s.down, .int .i64 s.fuse, K] 48)) := (Below.refl _ _).alloc (Nat.le_refl _) _
  have hC' := hC.step (Step.of_below hb0 NoB)
  have hW' := hW.step (Step.of_below hb0 NoB)
  rw [hw0q] at hB hb0 hC' hW'
  rw [hbx] at hB
  obtain ⟨x0, x1, x2, x3, x4⟩ := box_cells hB
  have B0 := Lib.hid hb0; have OK := Lib.hid ok
  clear hC hW hK hB hb0 ok
  obtain ⟨ca, cc, rfl, hcl, hcm, -, hcx⟩ := hC'
  obtain ⟨wa, wc, rfl, hwl, hwm, -, hwx⟩ := hW'
  have CX := Lib.hid hcx; have WX := Lib.hid hwx
  clear hcx hwx
  simp only [sects_length] at hcl x0 hw0q ⊢
  have hn1 := OK.out.hi
  unfold maxLen at hwm
  have HW0 : Hid (w.heap.size = bx) := hbx
  unfold DS.look
  by_cases hlo : x < 0
  · rw [if_pos (.inl hlo)]
    go_enter Try.func26, Try.ntmps26
    go_wp2_with (fail)
    go_ret2
    exact ⟨_, rfl, bytes_nil _ _, by first | exact B0.out | (have := B0.out; rw [hbx] at this; exact this)⟩
  · by_cases hhi : (n : Int) ≤ x
    · rw [if_pos (.inr hhi)]
      go_enter Try.func26, Try.ntmps26
      go_wp2_with (fail)
      go_ret2
      exact ⟨_, rfl, bytes_nil _ _, by first | exact B0.out | (have := B0.out; rw [hbx] at this; exact this)⟩
    · rw [if_neg (fun h => h.elim hlo hhi)]
      have hx2 : 0 ≤ x := by omega
      have hx3 : x < n := by omega
      cases hdn : s.down with
      | true =>
        rw [hdn] at x2 hw0q
        rw [if_pos rfl]
        go_enter Try.func26, Try.ntmps26
        go_wp2_with (fail)
        go_ret2
        exact ⟨_, rfl, bytes_nil _ _, by first | exact B0.out | (have := B0.out; rw [hbx] at this; exact this)⟩
      | false =>
        rw [hdn] at x2 hw0q
        rw [if_neg (by simp)]
        obtain ⟨q, rfl⟩ := Int.eq_ofNat_of_zero_le hx2
        have RD : Hid (s.read q = readFold (sect s.dur q) s.wr q) := rfl
        go_enter Try.func26, Try.ntmps26
        go_wp2_with (fail)
        have R0 : Hid (readFold (sect s.dur q) s.wr q = readFold (sect s.dur q) (s.wr.take s.wr.length) q) := by show _ = _; rw [List.take_length]
        go_loopw [6] (fun i wr => ∃ j : Nat, j ≤ s.wr.length ∧ i = .int .i64 ((j : Int) - 1) ∧ Hid (readFold (sect s.dur q) s.wr q = readFold (sect s.dur q) (s.wr.take j) q) ∧ wr = w0) (fun i _ => (intOf i + 1).toNat)
        case atStart => exact ⟨s.wr.length, Nat.le_refl _, rfl, R0, rfl⟩
        case round =>
          clear R0
          obtain ⟨j, hj, rfl, RI, rfl⟩ := hrel
          cases j with
          | zero =>
            have hq0 : q < (sects s.dur n).length := by rw [sects_length]; omega
            obtain ⟨b, off, u, rfl, -, -, hcell, hu⟩ := CX.out q hq0
            rw [sects_get] at hu
            have HU : Hid (Bytes wr NoB u (s.read q)) := by
              show Bytes _ _ _ _
              rw [RD.out, RI.out]; exact hu
            clear hu RI RD CX WX
            go_wp2_with (fail)
            go_ret2
            exact ⟨_, rfl, HU.out, by first | exact B0.out | (have := B0.out; rw [hbx] at this; exact this)⟩
          | succ j =>
            have hlt : j < s.wr.length := by omega
            have hv : ((j + 1 : Nat) : Int) - 1 = (j : Int) := by omega
            rw [hv]
            obtain ⟨b, off, u, rfl, -, -, hcell, hcell2, hu⟩ := WX.out j hlt
            obtain ⟨p, hp⟩ : ∃ p, s.wr[j] = p := ⟨_, rfl⟩
            rw [hp] at hcell hu
            have RI' : Hid (readFold (sect s.dur q) s.wr q = if p.1 = (q : Int) then p.2 else readFold (sect s.dur q) (s.wr.take j) q) := by
              show _ = _
              rw [RI.out, take_snoc' _ _ hlt, readFold_snoc, hp]
            have HUU := Lib.hid hu
            have hj0 : (0 : Int) ≤ (j : Int) := by omega
            have hj1 : (j : Int) < (s.wr.length : Int) := by omega
            clear hu RI hp
            by_cases hpq : p.1 = (q : Int)
            · have e1 : (p.1 == (q : Int)) = true := by simp [hpq]
              have HU : Hid (Bytes wr NoB u (s.read q)) := by
                show Bytes _ _ _ _
                rw [RD.out, RI'.out, if_pos hpq]; exact HUU.out
              clear hpq HUU RI' RD CX WX
              go_wp2_with (fail)
              go_ret2
              exact ⟨_, rfl, HU.out, by first | exact B0.out | (have := B0.out; rw [hbx] at this; exact this)⟩
            · have e1 : (p.1 == (q : Int)) = false := by simp [hpq]
              have R1 : Hid (readFold (sect s.dur q) s.wr q = readFold (sect s.dur q) (s.wr.take j) q) := by show _ = _; rw [RI'.out, if_neg hpq]
              clear hpq HUU RI'
              go_wp2_with (fail)
              go_roundw
              case rel => exact ⟨j, by omega, rfl, R1, trivial⟩
              case measure => simp [intOf]

end Go.Proofs.Ythnolhcknhhipaa
