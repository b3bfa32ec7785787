/-
  The disk's small functions: Pending, Sectors, Power, sector, Fuse.
  No condition.
-/
import Derived.Test.YthnolhcknhhipaaDk
namespace Go.Proofs.Ythnolhcknhhipaa
set_option linter.unusedVariables false
set_option linter.unusedSimpArgs false
open Go.RowKit

set_option maxHeartbeats 400000 in
theorem pending_any (w : World) (F : Nat → Prop) (g : Nat) (s : DS) (h : DiskAt w F g s) :
    Calls Try.prog 13 #[.pointer (some ⟨g, 0, none⟩)] w fun e w' => e = .returned (.int .i64 s.wr.length) ∧ w = w' := by
  obtain ⟨gd, capd, W, K, h⟩ := h
  have hc := h.cell1
  have hW : ∃ a c, W = .slice a s.wr.length c := by
    rcases h.wr.2 with ⟨rfl, h0⟩ | ⟨b, cap, cur, rfl, _⟩
    · exact ⟨none, 0, by rw [h0]⟩
    · exact ⟨_, cap, rfl⟩
  obtain ⟨a, c, rfl⟩ := hW
  clear h
  generalize s.wr.length = n at *
  go_enter Try.func13, Try.ntmps13
  go_wp2
  go_ret
  exact ⟨rfl, rfl⟩

set_option maxHeartbeats 400000 in
theorem power_any (w : World) (F : Nat → Prop) (g : Nat) (s : DS) (h : DiskAt w F g s) :
    Calls Try.prog 20 #[.pointer (some ⟨g, 0, none⟩)] w fun e w' => e = .returned (.tuple #[]) ∧ DiskAt w' F g { s with down := false } ∧ Step F w F w' := by
  obtain ⟨gd, capd, W, K, h⟩ := h
  have hc := h.cell2
  have hf := h.froz 2
  have H := Lib.hid h; clear h
  go_enter Try.func20, Try.ntmps20
  go_wp2
  go_end0
  refine ⟨rfl, ⟨gd, capd, W, K, H.out.setOwn 2 _ _ W K rfl rfl (.inl ⟨rfl, rfl⟩) (.inl ⟨rfl, rfl⟩)⟩, (Step.refl _ _).setCell (.inl H.out.fg) _⟩

set_option maxHeartbeats 400000 in
theorem sectors_any (w : World) (F : Nat → Prop) (g : Nat) (s : DS) (n : Nat) (h : DiskAt w F g s) (ok : s.Ok n) :
    Calls Try.prog 25 #[.pointer (some ⟨g, 0, none⟩)] w fun e w' => e = .returned (.int .i64 n) ∧ w = w' := by
  obtain ⟨gd, capd, W, K, h⟩ := h
  have hc := h.cell0
  rw [ok.dur] at hc
  have hi := ok.hi
  clear h ok
  go_enter Try.func25, Try.ntmps25
  go_wp2
  go_ret
  exact ⟨by go_num, rfl⟩

set_option maxHeartbeats 400000 in
theorem sector_any (w : World) (g n capd gd k : Nat) (hc : w.cell? ⟨g, 0, none⟩ = some (.slice (some ⟨gd, 0, none⟩) (64 * n) capd)) (hi : n ≤ 65536) (hcap : 64 * n ≤ capd) (hk : k < n) :
    Calls Try.prog 31 #[.pointer (some ⟨g, 0, none⟩), .int .i64 k] w fun e w' => e = .returned (.slice (some ⟨gd, 64 * k, none⟩) 64 64) ∧ w = w' := by
  go_enter Try.func31, Try.ntmps31
  go_wp2
  go_ret
  refine ⟨?_, rfl⟩
  show Ending.returned (.slice (some ⟨gd, k * 64, none⟩) ((k + 1) * 64 - k * 64) ((k + 1) * 64 - k * 64)) = _
  rw [show (k + 1) * 64 - k * 64 = 64 by omega, show k * 64 = 64 * k by omega]


end Go.Proofs.Ythnolhcknhhipaa
