/-
  The disk's Copy.
  Condition: the lists are short enough to be copied.
-/
import Derived.Test.YthnolhcknhhipaaDkClone
import Derived.Deep.RegionHeld3
namespace Go.Proofs.Ythnolhcknhhipaa
set_option linter.unusedVariables false
set_option linter.unusedSimpArgs false
open Go.RowKit

theorem copy_close (wC : World) (p : Nat) (s : DS) (gd0 n0 capd0 : Nat) (W0 K0 : Value) (h : wC.heap[p]? = some (.cells (dcells gd0 n0 capd0 W0 s.down s.fuse K0) 63 (0, 0)))
    (ga ca : Nat) (W K : Value) (oA : wC.ownsRow 0 5 1 (.slice (some ⟨ga, 0, none⟩) s.dur.length ca) s.dur.length (s.dur.map (.int .u8))) (oB : wC.ownsRow 0 66 65 W s.wr.length (wcells s.wr))
    (oC : wC.ownsRow 0 3 1 K s.kept.length (s.kept.map (.int .i64))) (F : Nat → Prop) (hF : ∀ k, F k → k < wC.heap.size) (fp : F p) (fa : F ga) (ha : ga ≠ p) (hb : ∀ b, W.ownBlock = some b → F b ∧ b ≠ p ∧ b ≠ ga)
    (hc : ∀ b, K.ownBlock = some b → F b ∧ b ≠ p ∧ b ≠ ga ∧ W.ownBlock ≠ some b) :
    DiskIn (((wC.setCell ⟨p, 0, none⟩ (.slice (some ⟨ga, 0, none⟩) s.dur.length ca)).setCell ⟨p, 1, none⟩ W).setCell ⟨p, 4, none⟩ K) F p s ga ca W K := by
  have ho : ∀ b, b ≠ p → (((wC.setCell ⟨p, 0, none⟩ (.slice (some ⟨ga, 0, none⟩) s.dur.length ca)).setCell ⟨p, 1, none⟩ W).setCell ⟨p, 4, none⟩ K).heap[b]? = wC.heap[b]? := by
    intro b hb
    rw [heap_setCell_other _ ⟨p, 4, none⟩ b _ hb, heap_setCell_other _ ⟨p, 1, none⟩ b _ hb, heap_setCell_other _ ⟨p, 0, none⟩ b _ hb]
  refine ⟨?_, ownsRow_of_block oA (fun b e => by cases e; exact ho _ ha), ownsRow_of_block oB (fun b e => ho _ (hb b e).2.1), ownsRow_of_block oC (fun b e => ho _ (hc b e).2.1), fp, fa, Ne.symm ha, hb, hc, ?_⟩
  · rw [heap_set5 (heap_set5 (heap_set5 h 0 _) 1 _) 4 _]; rfl
  · intro k hk; simp only [World.setCell, Array.size_modify]; exact hF k hk

set_option maxHeartbeats 1000000 in
theorem copy_any (w : World) (F : Nat → Prop) (g : Nat) (s : DS) (h : DiskAt w F g s) (h0 : 0 < s.dur.length) (h1 : s.dur.length ≤ 140737488355328) (h2 : s.wr.length * 72 ≤ 140737488355328) (h3 : s.kept.length * 8 ≤ 140737488355328) :
    Calls Try.prog 27 #[.pointer (some ⟨g, 0, none⟩)] w fun e w' => ∃ g', e = .returned (.pointer (some ⟨g', 0, none⟩)) ∧ ∃ F', DiskAt w' F' g' s ∧ Below w.heap.size w w' ∧ (∀ k, F' k → w.heap.size ≤ k) := by
  obtain ⟨gd, capd, W, K, h⟩ := h
  have hg := h.lt _ h.fg
  obtain ⟨aW, cW, rfl, hW1, hW2, hW3, hW4⟩ := ownsRow_shape h.wr
  obtain ⟨aK, cK, rfl, hK1, hK2, hK3, hK4⟩ := ownsRow_shape h.kept
  have c0 := h.cell0
  have c1 := h.cell1
  have c2 := h.cell2
  have c3 := h.cell3
  have c4 := h.cell4
  have H := Lib.hid h; clear h
  have HW3 := Lib.hid hW3; clear hW3
  have HW4 := Lib.hid hW4; clear hW4
  have HK3 := Lib.hid hK3; clear hK3
  have HK4 := Lib.hid hK4; clear hK4
  go_enter Try.func27, Try.ntmps27
  go_wp2_with (fail)
  have hal : Below w.heap.size w (w.alloc (.cells (dcells gd s.dur.length capd (.slice aW s.wr.length cW) s.down s.fuse (.slice aK s.kept.length cK)) 63)) := (Below.refl _ _).alloc (Nat.le_refl _) _
  have SA : Hid (∀ w', Hid (Below w.heap.size w w') → ∀ ad, some (⟨gd, 0, none⟩ : Addr) = some ad → ∀ j u, (s.dur.map (Value.int .u8))[j]? = some u → w'.cell? (ad.add j) = some u) :=
    fun w' hb ad e j u hu => by cases e; exact cell_below hb.out (H.out.dur.cells rfl j u hu)
  have SB : Hid (∀ w', Hid (Below w.heap.size w w') → ∀ ad, aW = some ad → ∀ j u, (wcells s.wr)[j]? = some u → w'.cell? (ad.add j) = some u) :=
    fun w' hb ad e j u hu => cell_below hb.out ((HW4.out ad e).2.2.2 j u hu)
  have SC : Hid (∀ w', Hid (Below w.heap.size w w') → ∀ ad, aK = some ad → ∀ j u, (s.kept.map (Value.int .i64))[j]? = some u → w'.cell? (ad.add j) = some u) :=
    fun w' hb ad e j u hu => cell_below hb.out ((HK4.out ad e).2.2.2 j u hu)
  have KA : Hid (∀ a b, Below a.heap.size a b → Hid (Below w.heap.size w a) → Hid (Below w.heap.size w b)) := fun a b h k => k.out.trans (h.mono k.out.size)
  have HL := Lib.hid H.out.wr.1
  have HO : Hid (∀ u ∈ wcells s.wr, u.oneCell' = true) := wcells_one s.wr
  have CB : Hid (∀ a b, Below a.heap.size a b → Hid (a.heap[w.heap.size]? = some (.cells (dcells gd s.dur.length capd (.slice aW s.wr.length cW) s.down s.fuse (.slice aK s.kept.length cK)) 63 (0, 0))) →
      b.cell? ⟨w.heap.size, 0, none⟩ = some (.slice (some ⟨gd, 0, none⟩) s.dur.length capd) ∧ b.cell? ⟨w.heap.size, 1, none⟩ = some (.slice aW s.wr.length cW) ∧ b.cell? ⟨w.heap.size, 4, none⟩ = some (.slice aK s.kept.length cK) ∧
      b.frozen? ⟨w.heap.size, 0, none⟩ = false ∧ b.frozen? ⟨w.heap.size, 1, none⟩ = false ∧ b.frozen? ⟨w.heap.size, 4, none⟩ = false) := by
    intro a b hb ha
    have h := heap_below hb ha.out
    refine ⟨?_, ?_, ?_, ?_, ?_, ?_⟩ <;> simp [World.cell?, World.frozen?, h, dcells]
  have CK : Hid (∀ a b, Below a.heap.size a b → Hid (a.heap[w.heap.size]? = some (.cells (dcells gd s.dur.length capd (.slice aW s.wr.length cW) s.down s.fuse (.slice aK s.kept.length cK)) 63 (0, 0))) → Hid (b.heap[w.heap.size]? = some (.cells (dcells gd s.dur.length capd (.slice aW s.wr.length cW) s.down s.fuse (.slice aK s.kept.length cK)) 63 (0, 0)))) :=
    fun a b hb ha => heap_below hb ha.out
  have KS : Hid (∀ a i u, Hid (Below w.heap.size w a) → Hid (Below w.heap.size w (a.setCell ⟨w.heap.size, i, none⟩ u))) := fun a i u h => h.out.setCell (Nat.le_refl _) u
  have CS : Hid (∀ (a : World) i u o v, a.cell? ⟨g, o, none⟩ = some v → (a.setCell ⟨w.heap.size, i, none⟩ u).cell? ⟨g, o, none⟩ = some v) := by
    intro a i u o v h
    rw [World.cell?_of_block (heap_setCell_other a ⟨w.heap.size, i, none⟩ g u (by show g ≠ w.heap.size; omega))]; exact h
  have hq : Hid ((w.alloc (.cells #[.slice (some ⟨gd, 0, none⟩) s.dur.length capd, .slice aW s.wr.length cW, .bool s.down, .int .i64 s.fuse, .slice aK s.kept.length cK] 63)).drew.heap[w.heap.size]? = some (.cells (dcells gd s.dur.length capd (.slice aW s.wr.length cW) s.down s.fuse (.slice aK s.kept.length cK)) 63 (0, 0))) := heap_alloc_new w _
  go_region_held3 (fun w' => w'.cell? ⟨g, 0, none⟩ = some (.slice (some ⟨gd, 0, none⟩) s.dur.length capd) ∧ w'.cell? ⟨g, 1, none⟩ = some (.slice aW s.wr.length cW) ∧ w'.cell? ⟨g, 4, none⟩ = some (.slice aK s.kept.length cK) ∧
      Hid (Below w.heap.size w w'))
    (first
      | exact ⟨cell_below hal.drew c0, cell_below hal.drew c1, cell_below hal.drew c4, hal.drew⟩
      | (go_split_ands; first
          | exact ⟨cell_below bA (by assumption), cell_below bA (by assumption), cell_below bA (by assumption), KA.out _ _ bA (by assumption)⟩
          | exact ⟨cell_below bB (by assumption), cell_below bB (by assumption), cell_below bB (by assumption), KA.out _ _ bB (by assumption)⟩
          | exact ⟨cell_below bC (by assumption), cell_below bC (by assumption), cell_below bC (by assumption), KA.out _ _ bC (by assumption)⟩
          | exact ⟨CS.out _ _ _ _ _ (by assumption), CS.out _ _ _ _ _ (by assumption), CS.out _ _ _ _ _ (by assumption), KS.out _ _ _ (by assumption)⟩))
    (first
      | (go_at_call 35; go_split_ands; refine (clone_byte _ _ _ _ (s.dur.map (.int .u8)) (by simp) (by simp) (SA.out _ (by assumption)) (ints_oneCell _ _) (by omega)).mono ?_; rintro e wA ⟨aA, cA, rfl, bA, oA, nA⟩; have hqA := CK.out _ _ bA (by assumption); have q0 := (CB.out _ _ bA (by assumption)).1; have q1 := (CB.out _ _ bA (by assumption)).2.1; have q2 := (CB.out _ _ bA (by assumption)).2.2.1; have q3 := (CB.out _ _ bA (by assumption)).2.2.2.1; have q4 := (CB.out _ _ bA (by assumption)).2.2.2.2.1; have q5 := (CB.out _ _ bA (by assumption)).2.2.2.2.2)
      | (go_at_call 36; go_split_ands; refine (clone_pending _ _ _ _ (wcells s.wr) HL.out HW3.out (SB.out _ (by assumption)) HO.out (by omega)).mono ?_; rintro e wB ⟨aB, cB, rfl, bB, oB, nB⟩; have hqB := CK.out _ _ bB (by assumption); have q0 := (CB.out _ _ bB (by assumption)).1; have q1 := (CB.out _ _ bB (by assumption)).2.1; have q2 := (CB.out _ _ bB (by assumption)).2.2.1; have q3 := (CB.out _ _ bB (by assumption)).2.2.2.1; have q4 := (CB.out _ _ bB (by assumption)).2.2.2.2.1; have q5 := (CB.out _ _ bB (by assumption)).2.2.2.2.2)
      | (go_at_call 37; go_split_ands; refine (clone_int _ _ _ _ (s.kept.map (.int .i64)) (by simp) HK3.out (SC.out _ (by assumption)) (ints_oneCell _ _) (by omega)).mono ?_; rintro e wC ⟨aC, cC, rfl, bC, oC, nC⟩; have hqC := CK.out _ _ bC (by assumption); have q0 := (CB.out _ _ bC (by assumption)).1; have q1 := (CB.out _ _ bC (by assumption)).2.1; have q2 := (CB.out _ _ bC (by assumption)).2.2.1; have q3 := (CB.out _ _ bC (by assumption)).2.2.2.1; have q4 := (CB.out _ _ bC (by assumption)).2.2.2.2.1; have q5 := (CB.out _ _ bC (by assumption)).2.2.2.2.2))
  go_wp2
  go_ret
  obtain ⟨ga, rfl⟩ : ∃ ga, aA = some ⟨ga, 0, none⟩ := by
    rcases oA.2 with ⟨_, hz⟩ | ⟨ga, capa, cura, hA, _⟩
    · omega
    · exact ⟨ga, by injection hA⟩
  have z0 : (w.alloc (.cells #[.slice (some ⟨gd, 0, none⟩) s.dur.length capd, .slice aW s.wr.length cW, .bool s.down, .int .i64 s.fuse, .slice aK s.kept.length cK] 63)).drew.heap.size = w.heap.size + 1 := by simp
  have zA := bA.size
  have zB := bB.size
  have zC := bC.size
  have mA := nA ga rfl
  rw [z0] at zA mA
  refine ⟨w.heap.size, rfl, fun k => w.heap.size ≤ k ∧ k < wC.heap.size, ⟨ga, cA, _, _, copy_close wC w.heap.size s _ _ _ _ _ hqC.out ga cA _ _ (ownsRow_below bC (ownsRow_below bB oA)) (ownsRow_below bC oB) oC _ (fun k h => h.2) ⟨Nat.le_refl _, by omega⟩ ⟨by omega, by omega⟩ (by omega) ?_ ?_⟩, ?_, fun k h => h.1⟩
  · intro b e
    have := nB b e
    exact ⟨⟨by omega, by omega⟩, by omega, by omega⟩
  · intro b e
    have := nC b e
    refine ⟨⟨by omega, by omega⟩, by omega, by omega, fun e' => ?_⟩
    have := nB b e'
    omega
  · exact ((((hal.drew.trans (bA.mono (by omega))).trans (bB.mono (by omega))).trans (bC.mono (by omega))).setCell (Nat.le_refl _) _ |>.setCell (Nat.le_refl _) _ |>.setCell (Nat.le_refl _) _)

end Go.Proofs.Ythnolhcknhhipaa
