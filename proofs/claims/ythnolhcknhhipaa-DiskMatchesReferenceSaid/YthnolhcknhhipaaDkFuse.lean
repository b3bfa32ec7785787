/-
  The disk's Fuse, New and Copy.
  Condition: the lists are short enough to be copied.
-/
import Derived.Test.YthnolhcknhhipaaDkClone
namespace Go.Proofs.Ythnolhcknhhipaa
set_option linter.unusedVariables false
set_option linter.unusedSimpArgs false
open Go.RowKit

set_option maxHeartbeats 400000 in
theorem fuse_any (w : World) (F : Nat → Prop) (g : Nat) (s : DS) (h : DiskAt w F g s) (x : Int) (ao : Option Addr) (cap : Nat) (ks : List Int) (h0 : ao = none → ks.length = 0 ∧ cap = 0)
    (hc : ∀ ad, ao = some ad → ∀ j u, (ks.map (Value.int .i64))[j]? = some u → w.cell? (ad.add j) = some u) (hb : ks.length * 8 ≤ 140737488355328) :
    Calls Try.prog 29 #[.pointer (some ⟨g, 0, none⟩), .int .i64 x, .slice ao ks.length cap] w fun e w' => e = .returned (.tuple #[]) ∧ ∃ F', DiskAt w' F' g { s with fuse := max x 0, kept := ks } ∧ Step F w F' w' := by
  obtain ⟨gd, capd, W, K, h⟩ := h
  have hf3 := h.froz 3
  have hf4 := h.froz 4
  have hc3 := h.cell3
  have hc4 := h.cell4
  have H := Lib.hid h; clear h
  have HC := Lib.hid hc; clear hc
  have H0 := Lib.hid h0; clear h0
  go_enter Try.func29, Try.ntmps29
  go_wp2_with (fail)
  all_goals
    refine (clone_int _ ao _ cap (ks.map (.int .i64)) (by simp) H0.out HC.out (ints_oneCell _ _) hb).mono ?_
    rintro e w1 ⟨ao', cap', rfl, hbel, hown, hnew⟩
    have D : DiskIn w1 F g s gd capd W K := H.out.of_blocks (fun k hk => hbel.block k (H.out.lt k hk)) (fun _ h => h) (fun k hk => Nat.lt_of_lt_of_le (H.out.lt k hk) hbel.size)
    clear hf3 hf4 hc3 hc4
    have hf3 := D.froz 3
    have hf4 := D.froz 4
    have hc3 := D.cell3
    have hc4 := D.cell4
    have D' := Lib.hid D; clear D
    have O := Lib.hid hown; clear hown
    have N := Lib.hid hnew; clear hnew
    have B := Lib.hid hbel; clear hbel
    go_wp2_with (fail)
    go_end0
    have hg := H.out.lt _ H.out.fg
    have hgd := H.out.lt _ H.out.fd
    have key : ∀ m, max x 0 = m → DiskIn ((w1.setCell ⟨g, 3, none⟩ (.int .i64 m)).setCell ⟨g, 4, none⟩ (.slice ao' ks.length cap')) (More F w w1) g { s with fuse := max x 0, kept := ks } gd capd W (.slice ao' ks.length cap') := by
      rintro m rfl
      refine (D'.out.setOwn 3 (.int .i64 (max x 0)) { s with fuse := max x 0 } W K rfl rfl (.inl ⟨rfl, rfl⟩) (.inl ⟨rfl, rfl⟩)).setK _ ks (ownsRow_of_block O.out (fun b e => heap_setCell_other _ _ _ _ ?_)) (fun k hk => .inl hk) ?_ ?_
      · have := (N.out b e).1; show b ≠ g; omega
      · intro k hk; simp only [World.setCell, Array.size_modify]; exact More.lt H.out.lt B.out.size k hk
      · intro b e
        have hb := N.out b e
        refine ⟨.inr hb, by omega, by omega, fun e' => ?_⟩
        have := H.out.lt _ (H.out.fw b e').1
        omega
    refine ⟨rfl, More F w w1, ⟨gd, capd, W, _, key _ (by omega)⟩, ?_⟩
    · exact (((Step.of_below B.out F).more w1).setCell (.inl H.out.fg) _).setCell (.inl H.out.fg) _

end Go.Proofs.Ythnolhcknhhipaa
