/-
  The restriction of a tree: what it must be, and the step at a branch.
  No condition.
-/
import Derived.Test.YtohmibmakelclaaPkD
import Derived.Test.YtohmibmakelclaaPkB
import Derived.Test.YtohmibmakelclaaPkI
import Derived.Laws.OwnMore
namespace Go.Proofs.Ytohmibmakelclaa
set_option linter.unusedVariables false
set_option linter.unusedSimpArgs false

/-- What a restriction must be. -/
structure Res (v : Nat) (d : Bool) (t r : T) : Prop where
  ok : r.Ok
  ev : ∀ c, r.ev c = t.ev (upd c v d)
  lv : t.lv ≤ r.lv

theorem Res.leaf (v : Nat) (d b : Bool) : Res v d (.leaf b) (.leaf b) := ⟨trivial, fun _ => rfl, Nat.le_refl _⟩
theorem Res.at {v : Nat} {d : Bool} {l h l' h' : T} (ok : (T.node v l h).Ok) (L : Res v d l l') (H : Res v d h h') : Res v d (.node v l h) (if d then h' else l') := by
  obtain ⟨h0, h1, h2, h3, h4, h5⟩ := ok
  have hu : ∀ c : Nat → Bool, upd c v d v = d := fun c => by simp [upd]
  cases d
  · refine ⟨L.ok, fun c => ?_, by have := L.lv; show v ≤ l'.lv; omega⟩
    simp only [T.ev, hu]
    exact L.ev c
  · refine ⟨H.ok, fun c => ?_, by have := H.lv; show v ≤ h'.lv; omega⟩
    simp only [T.ev, hu]
    exact H.ev c
theorem Res.other {u v : Nat} {d : Bool} {l h l' h' : T} (hne : u ≠ v) (ok : (T.node u l h).Ok) (L : Res v d l l') (H : Res v d h h') : (u < l'.lv ∧ u < h'.lv) ∧ Res v d (.node u l h) (if l' = h' then l' else .node u l' h') := by
  obtain ⟨h0, h1, h2, h3, h4, h5⟩ := ok
  have a1 : u < l'.lv := by have := L.lv; omega
  have a2 : u < h'.lv := by have := H.lv; omega
  refine ⟨⟨a1, a2⟩, ?_⟩
  have hu : ∀ c : Nat → Bool, upd c v d u = c u := fun c => by simp [upd, hne]
  by_cases e : l' = h'
  · rw [if_pos e]
    subst e
    refine ⟨L.ok, fun c => ?_, by show u ≤ _; omega⟩
    simp only [T.ev, hu]
    rw [← L.ev c, ← H.ev c]; simp
  · rw [if_neg e]
    refine ⟨⟨h0, a1, a2, e, L.ok, H.ok⟩, fun c => ?_, Nat.le_refl _⟩
    simp only [T.ev, hu]
    rw [← L.ev c, ← H.ev c]

theorem visit_sub {ns : List Br} (hw : Wf ns) : ∀ (t : T) (n : Nat) (s : List T), n < ns.length + 2 → t = tr ns n → (∀ x ∈ s, ∃ k, k < ns.length ∧ x = tr ns (k + 2)) → ∀ x ∈ t.visit s, ∃ k, k < ns.length ∧ x = tr ns (k + 2) := by
  intro t
  induction t with
  | leaf b => intro n s _ _ h; exact h
  | node v l r ihl ihr =>
    intro n s hn e h
    simp only [T.visit]
    split
    · exact h
    · rcases Nat.lt_or_ge n 2 with h2 | h2
      · have : n = 0 ∨ n = 1 := by omega
        rcases this with rfl | rfl
        · rw [tr_zero] at e; cases e
        · rw [tr_one] at e; cases e
      · obtain ⟨b, -, e2, l1, l2, -⟩ := (hw.stands hn).2.2 h2
        have e' := e
        rw [e2] at e
        injection e with e3 e4 e5
        intro x hx
        rcases List.mem_append.1 hx with hx | hx
        · exact ihr _ _ (by omega) e5 (ihl _ _ (by omega) e4 h) x hx
        · simp only [List.mem_singleton] at hx
          exact ⟨n - 2, by omega, by rw [hx, e']; congr 1; omega⟩

/-- A tree of a table has no more branches than the table. -/
theorem canon_len {ns : List Br} (hw : Wf ns) {n : Nat} (hn : n < ns.length + 2) : (tr ns n).canon.nodes.length ≤ ns.length := by
  have hc := T.canon_cl (hw.stands hn).1
  show (table _).length ≤ _
  rw [table_length]
  have := nodup_sub_le ((tr ns n).visit []) ((List.range ns.length).map (fun k => tr ns (k + 2))) hc.nodup (fun x hx => by
    obtain ⟨k, hk, e⟩ := visit_sub hw _ n [] hn rfl (fun x hx => by cases hx) x hx
    exact List.mem_map.2 ⟨k, List.mem_range.2 hk, e.symm⟩)
  simpa using this

end Go.Proofs.Ytohmibmakelclaa

namespace Go.Proofs.Ytohmibmakelclaa
set_option linter.unusedVariables false
set_option linter.unusedSimpArgs false
open Go.RowKit

theorem infoi : (Try.prog.info? 3).map (fun i => (i.zero, i.size, i.bytes)) = some (some (.int .i64 0), 1, 8) := by kernel_rfl

/-- What the loop keeps, behind j branches. -/
structure FInv (w0 w : World) (b0 : Nat) (D : Dg) (v : Nat) (d : Bool) (S0 : Value) (j : Nat) (ns : List Br) (S : Value) (nums : List Int) : Prop where
  k0 : w.heap[b0]? = some (.cells #[S0, .int .i64 D.root] 28 (0, 0))
  k1 : w.heap[b0 + 1]? = some (.cells dg0 28 (0, 0))
  n : w.heap[b0 + 4]? = some (.cells (nums.map (Value.int .i64)).toArray 3 (0, 0))
  bi : BInv w (b0 + 2) (b0 + 2) (b0 + 3) ns S
  sz : ns.length ≤ j
  ln : nums.length = D.nodes.length + 2
  ok : ∀ k, k < j + 2 → ∃ r : Nat, nums[k]? = some (r : Int) ∧ r < ns.length + 2 ∧ Res v d (tr D.nodes k) (tr ns r)
  bel : Below w0.heap.size w0 w

section
variable {w0 w : World} {b0 : Nat} {D : Dg} {v : Nat} {d : Bool} {S0 : Value} {j : Nat} {ns : List Br} {S : Value} {nums : List Int}

theorem FInv.below (h : FInv w0 w b0 D v d S0 j ns S nums) {w' : World} (hb : Below w.heap.size w w') : FInv w0 w' b0 D v d S0 j ns S nums :=
  ⟨heap_below hb h.k0, heap_below hb h.k1, heap_below hb h.n, h.bi.below hb, h.sz, h.ln, h.ok, h.bel.trans (hb.mono h.bel.size)⟩

/-- One branch more. -/
theorem FInv.next (h : FInv w0 w b0 D v d S0 j ns S nums) (hb0 : w0.heap.size ≤ b0) (hj : j < D.nodes.length) {w' : World} {x : List Br} {S' : Value} {m : Nat} (hB : BInv w' (b0 + 2) (b0 + 2) (b0 + 3) (ns ++ x) S') (hs : Step (BM (b0 + 2) (b0 + 3) S) w (BM (b0 + 2) (b0 + 3) S') w') (hx : x.length ≤ 1) (hm : m < (ns ++ x).length + 2) (hr : Res v d (tr D.nodes (j + 2)) (tr (ns ++ x) m)) :
    FInv w0 (w'.setCell ⟨b0 + 4, j + 2, none⟩ (.int .i64 (m : Int))) b0 D v d S0 (j + 1) (ns ++ x) S' (nums.set (j + 2) m) := by
  have lt : ∀ (g : Nat) (o : Obj), w.heap[g]? = some o → g < w.heap.size := fun g o hg => by rw [Array.getElem?_eq_some_iff] at hg; exact hg.1
  have nb : ∀ (g : Nat) (cs : Array Value) (t : TypeId), w.heap[g]? = some (.cells cs t (0, 0)) → t ≠ 44 → t ≠ 84 → ¬ BM (b0 + 2) (b0 + 3) S g := by
    intro g cs t hg h1 h2
    obtain ⟨n', -, hm'⟩ := h.bi.map
    rintro (e | e | e)
    · exact hm'.ne hg e.symm
    · exact ne_type hg h.bi.b h2 e
    · obtain ⟨cs', hc⟩ := own_type h.bi.row e
      exact ne_type hg hc h1 rfl
  have k0 := (hs.block _ (lt _ _ h.k0) (nb _ _ _ h.k0 (by decide) (by decide))).trans h.k0
  have k1 := (hs.block _ (lt _ _ h.k1) (nb _ _ _ h.k1 (by decide) (by decide))).trans h.k1
  have kn := (hs.block _ (lt _ _ h.n) (nb _ _ _ h.n (by decide) (by decide))).trans h.n
  have hst : Step (fun k => k = b0 + 4) w' (fun k => k = b0 + 4) (w'.setCell ⟨b0 + 4, j + 2, none⟩ (.int .i64 (m : Int))) := (Step.refl (fun k => k = b0 + 4) w').setCell (p := ⟨b0 + 4, j + 2, none⟩) (.inl rfl) _
  have hnb : ∀ k, k = b0 + 4 → ¬ BM (b0 + 2) (b0 + 3) S' k := by
    rintro k rfl (e | e | e)
    · omega
    · omega
    · obtain ⟨cs', hc⟩ := own_type hB.row e
      exact ne_type kn hc (by decide) rfl
  have hbel : Below w0.heap.size w w' := hs.belowB h.bel.size (fun k hk => by have := h.bi.away.1 k hk; omega)
  refine ⟨(heap_setCell_other w' ⟨b0 + 4, j + 2, none⟩ b0 _ (by simp)).trans k0, (heap_setCell_other w' ⟨b0 + 4, j + 2, none⟩ (b0 + 1) _ (by simp)).trans k1, ?_, hB.aside hst hnb, ?_, by simp [h.ln], ?_, (h.bel.trans hbel).setCell (by show _ ≤ b0 + 4; omega) _⟩
  · rw [heap_setCell_same w' (b0 + 4) (j + 2) _ _ _ kn, List.map_set, List.setIfInBounds_toArray]
  · have := h.sz; rw [List.length_append]; omega
  · intro k hk
    by_cases e : k = j + 2
    · subst e
      exact ⟨m, by rw [List.getElem?_set_self (by rw [h.ln]; omega)], hm, hr⟩
    · obtain ⟨r, h1, h2, h3⟩ := h.ok k (by omega)
      exact ⟨r, by rw [List.getElem?_set_ne (by omega)]; exact h1, by rw [List.length_append]; omega, by rw [tr_append x ns r h2]; exact h3⟩
end

set_option maxRecDepth 100000 in
set_option maxHeartbeats 2000000 in
theorem fixed_any (w : World) (va : Value) (D : Dg) (ha : DgAt w NoB va D) (hw : Wf D.nodes) (hl : D.nodes.length ≤ 4096) (p0 : 0 ≤ D.root) (q0 : D.root ≤ D.nodes.length + 1) (v : Nat) (hv : v ≤ 63) (d : Bool) :
    Calls Try.prog 71 #[va, .int .i64 (v : Int), .bool d] w fun e w' => ∃ (r : Value) (t : T), e = .returned r ∧ (Res v d D.tree t ∧ t.canon.nodes.length ≤ D.nodes.length) ∧ (∀ M : Nat → Prop, (∀ b, M b → b < w.heap.size) → DgAt w' M r t.canon) ∧ Below w.heap.size w w' := by
  obtain ⟨aa, ca, rfl⟩ := ha.shape
  obtain ⟨w0, b0, e0, hb0, z0, h0, B0⟩ := laid w #[.slice aa D.nodes.length ca, .int .i64 D.root] 28
  obtain ⟨w1, b1, e1, hb1, z1, h1, B1⟩ := laid w0 dg0 28
  obtain rfl : b1 = b0 + 1 := by omega
  replace z1 : w1.heap.size = b0 + 2 := by omega
  clear hb1
  have BW : Hid (Below w.heap.size w w1) := B0.trans (B1.mono B0.size)
  have K0 := Lib.hid (heap_below B1 h0); have K1 := Lib.hid h1; have HB0 := Lib.hid hb0; have Z1 := Lib.hid z1
  have HA := Lib.hid (ha.below BW.out); have HW := Lib.hid hw; have HA0 := Lib.hid ha
  clear h0 h1 B0 B1 ha hw
  go_enter Try.func71, Try.ntmps71
  go_wp2_with (fail)
  refine (newBuilder_any w1 (b0 + 2) (by omega)).mono ?_
  rintro e w2 ⟨rfl, hI, hb2, z2⟩
  rw [Z1.out] at hI z2 ⊢
  rw [show b0 + 2 + 1 = b0 + 3 from rfl] at hI ⊢
  rw [show b0 + 2 + 2 = b0 + 4 from rfl] at z2
  have K02 := Lib.hid (heap_below hb2 K0.out); have K12 := Lib.hid (heap_below hb2 K1.out)
  have HI := Lib.hid hI
  have B2 : Hid (Below w.heap.size w w2) := BW.out.trans (hb2.mono BW.out.size)
  have HA2 := Lib.hid (HA.out.below hb2)
  clear hI hb2 e0 e1 z0 z1
  obtain ⟨x0, x1⟩ := box2 K02.out
  have hl0 : (D.nodes.length : Int) ≤ 4096 := by omega
  obtain ⟨ii, hii, iz0, iz1, iz2⟩ := info_parts infoi
  have hmk := run_makeSlice (P := Try.prog) (w := w2) 54 3 ii (.int .i64 0) Try.underlying54 hii iz0 .i64 .i64 ((D.nodes.length : Int) + 2) ((D.nodes.length : Int) + 2) (by omega) (Int.le_refl _) (by rw [iz1]; omega) (by rw [iz2]; omega) (by omega)
  obtain ⟨q, hq⟩ : ∃ q, D.nodes.length + 2 = q := ⟨_, rfl⟩
  rw [iz1, show ((D.nodes.length : Int) + 2).toNat = q by omega] at hmk
  obtain ⟨w3, e3⟩ : ∃ w3, w2.alloc (.cells (madeCells (Value.int .i64 0).cells (q * 1)) 3) = w3 := ⟨_, rfl⟩
  rw [e3, z2] at hmk
  have h3 : w3.heap[b0 + 4]? = some (.cells (madeCells (Value.int .i64 0).cells (q * 1)) 3 (0, 0)) := by rw [← e3, ← z2]; exact heap_alloc_new w2 _
  have hcells : madeCells (Value.int .i64 0).cells (q * 1) = ((List.replicate q 0).map (Value.int .i64)).toArray := by
    apply Array.toList_inj.1
    rw [Nat.mul_one, List.map_replicate]
    exact toList_madeCells_one _ _
  rw [hcells] at h3
  have c1 : w3.cell? ⟨b0 + 4, 1, none⟩ = some (.int .i64 0) := by
    rw [cell_of_row w3 (b0 + 4) 1 _ _ _ h3]
    have hq1 : 1 < q := by omega
    simp [List.getElem?_replicate, hq1]
  have cf := frozen_box h3 1
  have B3 : Below w2.heap.size w2 w3 := by rw [← e3]; exact (Below.refl _ _).alloc (Nat.le_refl _) _
  obtain ⟨w4, e4⟩ : ∃ w4, w3.setCell ⟨b0 + 4, 1, none⟩ (.int .i64 1) = w4 := ⟨_, rfl⟩
  have k4 : ∀ k, k ≠ b0 + 4 → w4.heap[k]? = w3.heap[k]? := fun k hk => by rw [← e4]; exact heap_setCell_other w3 ⟨b0 + 4, 1, none⟩ k _ hk
  have K04 := (k4 b0 (by omega)).trans (heap_below B3 K02.out)
  obtain ⟨x0, x1⟩ := box2 K04
  have HQ := Lib.hid hq
  have B24 : Below w2.heap.size w2 w4 := by rw [← e4]; exact B3.setCell (by show _ ≤ b0 + 4; omega) _
  have INV : Hid (∃ ns S nums, FInv w w4 b0 D v d (.slice aa D.nodes.length ca) 0 ns S nums) := by
    refine ⟨[], .slice none 0 0, (List.replicate q 0).set 1 1, K04, (k4 (b0 + 1) (by omega)).trans (heap_below B3 K12.out), ?_, HI.out.below B24, Nat.le_refl _, by simp [hq], ?_, B2.out.trans (B24.mono B2.out.size)⟩
    · rw [← e4, heap_setCell_same w3 (b0 + 4) 1 _ _ _ h3]
      rw [List.map_set, List.setIfInBounds_toArray]
    · intro k hk
      have hk2 : k = 0 ∨ k = 1 := by omega
      have hq1 : 1 < q := by omega
      rcases hk2 with rfl | rfl
      · refine ⟨0, ?_, by simp, ?_⟩
        · rw [List.getElem?_set_ne (by omega)]; simp [List.getElem?_replicate]; omega
        · rw [tr_zero, tr_zero]; exact Res.leaf v d false
      · refine ⟨1, ?_, by simp, ?_⟩
        · rw [List.getElem?_set_self (by simp; omega)]; rfl
        · rw [tr_one, tr_one]; exact Res.leaf v d true
  have HB24 := Lib.hid B24
  go_wp2_with (fail)
  clear h3 hcells c1 cf B3 k4 K04 hmk x1 e3 hii iz0 iz1 iz2 B24
  go_loopw [24] (fun i wr => ∃ j : Nat, j ≤ D.nodes.length ∧ i = .int .i64 j ∧ Hid (∃ ns S nums, FInv w wr b0 D v d (.slice aa D.nodes.length ca) j ns S nums)) (fun i _ => D.nodes.length - (intOf i).toNat)
  case atStart => exact ⟨0, Nat.zero_le _, rfl, INV⟩
  case round =>
    obtain ⟨j, hj, rfl, IV⟩ := hrel
    obtain ⟨ns, S, nums, hF⟩ := IV.out
    by_cases hlt : j < D.nodes.length
    · obtain ⟨b, off, rfl, -, -, c0, c1, c2⟩ := ((HA0.out.below hF.bel).brs).get j hlt
      obtain ⟨-, -, h3⟩ := HW.out.stands (n := j + 2) (by omega)
      obtain ⟨x, hx, e, l1, l2, p1, p2, p3, p4, -⟩ := h3 (by omega)
      rw [show j + 2 - 2 = j by omega, List.getElem?_eq_getElem hlt] at hx
      obtain rfl : D.nodes[j] = x := by simpa using hx
      obtain ⟨x, hxq⟩ : ∃ x, D.nodes[j] = x := ⟨_, rfl⟩
      rw [hxq] at c0 c1 c2 e l1 l2 p1 p2 p3 p4
      obtain ⟨u, hu⟩ : ∃ u : Nat, x.v = (u : Int) := ⟨x.v.toNat, by omega⟩
      rw [hu] at c0 e p3 p4
      rw [Int.toNat_natCast] at e
      obtain ⟨rl, gl1, gl2, gl3⟩ := hF.ok x.l.toNat (by omega)
      obtain ⟨rh, gh1, gh2, gh3⟩ := hF.ok x.h.toNat (by omega)
      obtain ⟨w5, bq, e5, hbq, hsz5, h5, hb5⟩ := laid wr (br3 (u : Int) x.l x.h) 44
      obtain ⟨y0, y1, y2⟩ := box3 h5
      have n5 := heap_below hb5 hF.n
      have cl : w5.cell? ⟨b0 + 4, x.l.toNat, none⟩ = some (.int .i64 (rl : Int)) := by rw [cell_of_row w5 (b0 + 4) x.l.toNat _ _ _ n5]; simp [gl1]
      have ch : w5.cell? ⟨b0 + 4, x.h.toNat, none⟩ = some (.int .i64 (rh : Int)) := by rw [cell_of_row w5 (b0 + 4) x.h.toNat _ _ _ n5]; simp [gh1]
      have HE := Lib.hid e; have HF := Lib.hid hF; have HX5 := Lib.hid hb5
      have hj0 : (0 : Int) ≤ (j : Int) := by omega
      have hj1 : (j : Int) < (D.nodes.length : Int) := by omega
      obtain ⟨z0, -⟩ := box2 hF.k0
      clear e hF hb5 h5 n5
      go_wp2_with (with_reducible refine wpList_store_last rfl 44 (.tmp 10) (.tmp 28) rfl (br3 0 0 0) (br3 (u : Int) x.l x.h) rfl rfl sizebr rfl (br3_one _ _ _) ?_)
      go_quiet (fail)
      have F6 : Hid (FInv w (w5.drewN nq) b0 D v d (.slice (some ⟨b, off, none⟩) D.nodes.length ca) j ns S nums) := HF.out.below (below_drewN HX5.out nq)
      have OKN : Hid ((tr D.nodes (j + 2)).Ok) := (HW.out.stands (n := j + 2) (by omega)).1
      by_cases huv : u = v
      · subst huv
        have hR := Res.at (d := d) (HE.out ▸ OKN.out) gl3 gh3
        have HR := Lib.hid hR
        clear hR
        cases d
        · go_wp2_with (fail)
          refine (branch_any (w5.drewN nq) (b0 + 2) (b0 + 2) (b0 + 3) ns S F6.out.bi u rl rl (by omega) (by omega) (by omega) (fun h => absurd rfl h) (by have := F6.out.sz; omega)).mono ?_
          rintro e w7 ⟨m, x', S', rfl, hB, hs, hx', hm, ht⟩
          have hFN := F6.out.next (by have := HB0.out; omega) hlt hB hs hx' hm (by rw [ht, HE.out, if_pos rfl]; exact HR.out)
          have kn : w7.heap[b0 + 4]? = some (.cells (nums.map (Value.int .i64)).toArray 3 (0, 0)) := by
            refine (hs.block _ (by have := F6.out.n; rw [Array.getElem?_eq_some_iff] at this; exact this.1) ?_).trans F6.out.n
            obtain ⟨n', -, hm'⟩ := F6.out.bi.map
            rintro (e | e | e)
            · omega
            · omega
            · obtain ⟨cs', hc⟩ := own_type F6.out.bi.row e
              exact ne_type F6.out.n hc (by decide) rfl
          have hnl := F6.out.ln
          obtain ⟨y, hy⟩ : ∃ y, w7.cell? ⟨b0 + 4, j + 2, none⟩ = some y := by
            rw [cell_of_row w7 (b0 + 4) (j + 2) _ _ _ kn]
            exact ⟨_, Array.getElem?_eq_getElem (by simp; omega)⟩
          have hf := frozen_box kn (j + 2)
          have HFN : Hid (∃ ns S nums, FInv w (w7.setCell ⟨b0 + 4, j + 2, none⟩ (.int .i64 (m : Int))) b0 D u false (.slice (some ⟨b, off, none⟩) D.nodes.length ca) (j + 1) ns S nums) := ⟨_, _, _, hFN⟩
          clear hB hs hx' hm ht hFN kn
          go_wp2_with (fail)
          go_roundw
          case rel => exact ⟨j + 1, by omega, by go_num, HFN⟩
          case measure => simp [intOf]; omega
        · go_wp2_with (fail)
          refine (branch_any (w5.drewN nq) (b0 + 2) (b0 + 2) (b0 + 3) ns S F6.out.bi u rh rh (by omega) (by omega) (by omega) (fun h => absurd rfl h) (by have := F6.out.sz; omega)).mono ?_
          rintro e w7 ⟨m, x', S', rfl, hB, hs, hx', hm, ht⟩
          have hFN := F6.out.next (by have := HB0.out; omega) hlt hB hs hx' hm (by rw [ht, HE.out, if_pos rfl]; exact HR.out)
          have kn : w7.heap[b0 + 4]? = some (.cells (nums.map (Value.int .i64)).toArray 3 (0, 0)) := by
            refine (hs.block _ (by have := F6.out.n; rw [Array.getElem?_eq_some_iff] at this; exact this.1) ?_).trans F6.out.n
            obtain ⟨n', -, hm'⟩ := F6.out.bi.map
            rintro (e | e | e)
            · omega
            · omega
            · obtain ⟨cs', hc⟩ := own_type F6.out.bi.row e
              exact ne_type F6.out.n hc (by decide) rfl
          have hnl := F6.out.ln
          obtain ⟨y, hy⟩ : ∃ y, w7.cell? ⟨b0 + 4, j + 2, none⟩ = some y := by
            rw [cell_of_row w7 (b0 + 4) (j + 2) _ _ _ kn]
            exact ⟨_, Array.getElem?_eq_getElem (by simp; omega)⟩
          have hf := frozen_box kn (j + 2)
          have HFN : Hid (∃ ns S nums, FInv w (w7.setCell ⟨b0 + 4, j + 2, none⟩ (.int .i64 (m : Int))) b0 D u true (.slice (some ⟨b, off, none⟩) D.nodes.length ca) (j + 1) ns S nums) := ⟨_, _, _, hFN⟩
          clear hB hs hx' hm ht hFN kn
          go_wp2_with (fail)
          go_roundw
          case rel => exact ⟨j + 1, by omega, by go_num, HFN⟩
          case measure => simp [intOf]; omega
      · have hne : ((u : Int) == (v : Int)) = false := by simp; omega
        have hR := Res.other (d := d) huv (HE.out ▸ OKN.out) gl3 gh3
        have HR := Lib.hid hR
        clear hR
        go_wp2_with (fail)
        refine (branch_any (w5.drewN nq) (b0 + 2) (b0 + 2) (b0 + 3) ns S F6.out.bi u rl rh (by omega) (by omega) (by omega) (fun _ => HR.out.1) (by have := F6.out.sz; omega)).mono ?_
        rintro e w7 ⟨m, x', S', rfl, hB, hs, hx', hm, ht⟩
        have hFN := F6.out.next (by have := HB0.out; omega) hlt hB hs hx' hm (by rw [ht, HE.out]; by_cases e : rl = rh; (rw [if_pos e]; have := HR.out.2; rw [e, if_pos rfl] at this; rw [e]; exact this); (rw [if_neg e]; have := HR.out.2; rw [if_neg (fun h => e (F6.out.bi.wf.inj (by omega) (by omega) h))] at this; exact this))
        have kn : w7.heap[b0 + 4]? = some (.cells (nums.map (Value.int .i64)).toArray 3 (0, 0)) := by
          refine (hs.block _ (by have := F6.out.n; rw [Array.getElem?_eq_some_iff] at this; exact this.1) ?_).trans F6.out.n
          obtain ⟨n', -, hm'⟩ := F6.out.bi.map
          rintro (e | e | e)
          · omega
          · omega
          · obtain ⟨cs', hc⟩ := own_type F6.out.bi.row e
            exact ne_type F6.out.n hc (by decide) rfl
        have hnl := F6.out.ln
        obtain ⟨y, hy⟩ : ∃ y, w7.cell? ⟨b0 + 4, j + 2, none⟩ = some y := by
          rw [cell_of_row w7 (b0 + 4) (j + 2) _ _ _ kn]
          exact ⟨_, Array.getElem?_eq_getElem (by simp; omega)⟩
        have hf := frozen_box kn (j + 2)
        have HFN : Hid (∃ ns S nums, FInv w (w7.setCell ⟨b0 + 4, j + 2, none⟩ (.int .i64 (m : Int))) b0 D v d (.slice (some ⟨b, off, none⟩) D.nodes.length ca) (j + 1) ns S nums) := ⟨_, _, _, hFN⟩
        clear hB hs hx' hm ht hFN kn
        go_wp2_with (fail)
        go_roundw
        case rel => exact ⟨j + 1, by omega, by go_num, HFN⟩
        case measure => simp [intOf]; omega
    · obtain rfl : j = D.nodes.length := by omega
      obtain ⟨n0, hn0⟩ : ∃ n0 : Nat, D.root = (n0 : Int) := ⟨D.root.toNat, by omega⟩
      have hn0l : n0 < D.nodes.length + 2 := by omega
      obtain ⟨rr, g1, g2, g3⟩ := hF.ok n0 hn0l
      obtain ⟨x0, x1⟩ := box2 hF.k0
      have cn : wr.cell? ⟨b0 + 4, n0, none⟩ = some (.int .i64 (rr : Int)) := by rw [cell_of_row wr (b0 + 4) n0 _ _ _ hF.n]; simp [g1]
      rw [hn0] at x1
      have HF := Lib.hid hF; have HG2 := Lib.hid g2; have HG3 := Lib.hid g3
      have HT : Hid (D.tree = tr D.nodes n0) := by show _ = _; unfold Dg.tree; rw [hn0, Int.toNat_natCast]
      clear hF g1 g2 g3
      go_wp2_with (fail)
      refine (diagram_any wr (b0 + 3) S ns (cell_of_row wr (b0 + 3) 0 _ _ _ HF.out.bi.b) (brs_of_own HF.out.bi.row (fun b _ h => h.elim)) HF.out.bi.wf (by have := HF.out.sz; omega) rr HG2.out).mono ?_
      rintro e w5 ⟨rv, rfl, hM, hb5⟩
      obtain ⟨sa, sc, rfl⟩ := (hM NoB (fun b h => h.elim)).shape
      have K15 := Lib.hid (heap_below hb5 HF.out.k1)
      have BW5 : Hid (Below w.heap.size w w5) := HF.out.bel.trans (hb5.mono HF.out.bel.size)
      have L1 : Hid (b0 + 1 < wr.heap.size) := by have := HF.out.k1; rw [Array.getElem?_eq_some_iff] at this; exact this.1
      have HM := Lib.hid hM
      obtain ⟨y0, y1⟩ := box2 (r := 0) (S := .slice none 0 0) K15.out
      have yf := frozen_box K15.out
      clear hM hb5 x0 x1 cn
      go_wp2_with (fail)
      obtain ⟨w6, e6, P6, Q6, S6⟩ := put2 (w0 := w) (c0 := .slice sa (tr ns rr).canon.nodes.length sc) (c1 := .int .i64 (tr ns rr).canon.root) K15.out BW5.out (by have := HB0.out; omega)
      rw [e6]
      obtain ⟨u0, u1⟩ := box2 P6
      refine bodyPost_ret (v := .agg #[.slice sa (tr ns rr).canon.nodes.length sc, .int .i64 (tr ns rr).canon.root]) (by simp [results, Try.results71, go_sem, u0, u1]) rfl ?_
      refine ⟨_, tr ns rr, rfl, ⟨by rw [HT.out]; exact HG3.out, Nat.le_trans (canon_len HF.out.bi.wf HG2.out) HF.out.sz⟩, fun M hMM => ?_, Q6⟩
      have h1 := HM.out (fun k => M k ∨ k = b0 + 1) (fun b hb => by
        rcases hb with hb | hb
        · have := hMM b hb; have := HF.out.bel.size; omega
        · rw [hb]; exact L1.out)
      exact (h1.step (S6.wide (fun k hk => .inr hk))).wide (fun k hk => .inl hk)

end Go.Proofs.Ytohmibmakelclaa

namespace Go.Proofs.Ytohmibmakelclaa
set_option linter.unusedVariables false
set_option linter.unusedSimpArgs false
open Go.RowKit

/-- The error of a diagram, or of a condition. -/
noncomputable def errR (D : Dg) (v : Int) : Int := if code D = 0 then (if v < 0 ∨ 63 < v then 1 else 0) else code D
theorem errR_zero {D : Dg} {v : Int} (h : code D = 0) (h0 : 0 ≤ v) (h1 : v ≤ 63) : errR D v = 0 := by
  unfold errR; rw [if_pos h, if_neg (by omega)]
theorem errR_arg {D : Dg} {v : Int} (h : code D = 0) (h1 : v < 0 ∨ 63 < v) : errR D v = 1 := by
  unfold errR; rw [if_pos h, if_pos h1]
theorem errR_bad {D : Dg} {v : Int} (h : ¬ code D = 0) : errR D v = code D := by unfold errR; rw [if_neg h]

set_option maxRecDepth 100000 in
set_option maxHeartbeats 2000000 in
theorem restrict_any (w : World) (va : Value) (Da : Dg) (ha : DgAt w NoB va Da) (v : Int) (d : Bool) :
    Calls Try.prog 27 #[va, .int .i64 v, .bool d] w fun e w' => Gives w w' e (errR Da v) (fun x => Da.tree.ev (upd x v.toNat d)) ∧ Below w.heap.size w w' := by
  obtain ⟨aa, ca, rfl⟩ := ha.shape
  obtain ⟨w0, b0, e0, hb0, z0, h0, B0⟩ := laid w #[.slice aa Da.nodes.length ca, .int .i64 Da.root] 28
  obtain ⟨w3, b3, e3, hb3, z3, h3, B3⟩ := laid w0 dg0 28
  obtain rfl : b3 = b0 + 1 := by omega
  replace z3 : w3.heap.size = b0 + 2 := by omega
  clear hb3
  have BW : Hid (Below w.heap.size w w3) := B0.trans (B3.mono B0.size)
  have K0 := Lib.hid (heap_below B3 h0)
  obtain ⟨x0, x1⟩ := box2 K0.out
  have K3 := Lib.hid h3; have Z3 := Lib.hid z3; have HB0 := Lib.hid hb0
  have HA := Lib.hid (ha.below BW.out)
  clear h0 h3 B0 B3 ha
  go_enter Try.func27, Try.ntmps27
  go_wp2_with (fail)
  refine (check_any w3 _ Da HA.out).mono ?_
  rintro e w5 ⟨rfl, hb5⟩
  have B5 : Hid (Below w.heap.size w w5) := BW.out.trans (hb5.mono BW.out.size)
  have K05 := Lib.hid (heap_below hb5 K0.out); have K35 := Lib.hid (heap_below hb5 K3.out)
  have HA5 := Lib.hid (HA.out.below hb5)
  have Z5 : Hid (b0 + 2 ≤ w5.heap.size) := by show _ ≤ _; have := hb5.size; have := Z3.out; omega
  clear hb5 x0 x1 e0 e3 z0 z3
  obtain ⟨x0, x1⟩ := box2 K05.out
  obtain ⟨r0, r1⟩ := box2 (r := 0) (S := .slice none 0 0) K35.out
  have rf := frozen_box K35.out
  by_cases hc : code Da = 0
  · by_cases hv : v < 0 ∨ 63 < v
    · have HE := Lib.hid (errR_arg hc hv)
      rw [hc]
      have hcase : v < 0 ∨ (0 ≤ v ∧ 63 < v) := by omega
      clear hv hc
      rcases hcase with h1 | ⟨h1, h2⟩
      all_goals
        go_wp2_with (fail)
        obtain ⟨w6, e6, P6, Q6, -⟩ := put2 (w0 := w) (c0 := .slice none 0 0) (c1 := .int .i64 0) K35.out B5.out (by have := HB0.out; omega)
        rw [e6]
        obtain ⟨u0, u1⟩ := box2 P6
        refine bodyPost_ret (v := .tuple #[.agg dg0, .int .i64 1]) (by simp [results, Try.results27, go_sem, u0, u1]) rfl ?_
        exact ⟨⟨fun _ => by rw [HE.out], fun h => absurd (HE.out.symm.trans h) (by decide)⟩, by first | exact Q6 | (rw [← HB0.out]; exact Q6)⟩
    · have HE := Lib.hid (errR_zero hc (by omega) (by omega) : errR Da v = 0)
      obtain ⟨hl, hva⟩ := code_zero hc
      obtain ⟨a1, a2, a3, -⟩ := (valid_iff Da).1 hva
      obtain ⟨u, hu⟩ : ∃ u : Nat, v = (u : Int) := ⟨v.toNat, by omega⟩
      subst hu
      have hu63 : u ≤ 63 := by omega
      have hu0 : (0 : Int) ≤ (u : Int) := by omega
      have hu1 : (u : Int) ≤ 63 := by omega
      rw [hc]
      clear hc hv hva
      go_wp2_with (fail)
      refine (fixed_any w5 (.agg #[.slice aa Da.nodes.length ca, .int .i64 Da.root]) Da HA5.out a1 hl a2 a3 u hu63 d).mono ?_
      rintro e w6 ⟨r, t, rfl, ⟨hg, -⟩, hM, hb6⟩
      obtain ⟨sa, sc, rfl⟩ := (hM NoB (fun b h => h.elim)).shape
      have hlen := (hM NoB (fun b h => h.elim)).brs.len
      have hl63 : t.canon.nodes.length ≤ 9223372036854775807 := by have := hlen.1; have := hlen.2.1; unfold maxLen at *; omega
      have HM := Lib.hid hM; have HG := Lib.hid hg; have HB6 := Lib.hid hb6
      clear hM hg hlen hb6
      go_wp2_with (fail)
      refine (limited_any w6 sa t.canon.nodes.length sc t.canon.root hl63).mono ?_
      rintro e w7 ⟨rfl, hb7⟩
      have K37 := heap_below (HB6.out.trans (hb7.mono HB6.out.size)) K35.out
      have B7 : Hid (Below w.heap.size w w7) := (B5.out.trans (HB6.out.mono B5.out.size)).trans (hb7.mono (by have := B5.out.size; have := HB6.out.size; omega))
      have HB7 := Lib.hid hb7
      obtain ⟨s0, s1⟩ := box2 (r := 0) (S := .slice none 0 0) K37
      have sf := frozen_box K37
      have K37h := Lib.hid K37
      have FIN : Hid (∀ (w8 : World), Below w.heap.size w w8 → Step (fun k => k = b0 + 1) w7 (fun k => k = b0 + 1) w8 → Gives w w8 (.returned (lim (.agg #[.slice sa t.canon.nodes.length sc, .int .i64 t.canon.root]) t.canon.nodes.length)) (errR Da u) (fun x => Da.tree.ev (upd x (u : Int).toNat d)) ∧ Below w.heap.size w w8) := by
        intro w8 hw8 hs8
        refine ⟨⟨fun h => absurd HE.out h, fun _ => ⟨_, t, HG.out.ok, fun x => HG.out.ev x, rfl, fun M hM => ?_⟩⟩, hw8⟩
        have hz := Z5.out
        have hbz := HB0.out
        have h1 := HM.out (fun k => M k ∨ k = b0 + 1) (fun b hb => by
          rcases hb with hb | hb
          · have := hM b hb; omega
          · omega)
        exact ((h1.below HB7.out).step (hs8.wide (fun k hk => .inr hk))).wide (fun k hk => .inl hk)
      clear hb7 K37 x0 x1 r0 r1 rf
      by_cases hs : t.canon.nodes.length ≤ 4096
      · have hlim : lim (.agg #[.slice sa t.canon.nodes.length sc, .int .i64 t.canon.root]) t.canon.nodes.length = .tuple #[.agg #[.slice sa t.canon.nodes.length sc, .int .i64 t.canon.root], .int .i64 0] := by unfold lim; rw [if_pos hs]
        have HLIM := Lib.hid hlim
        rw [hlim]
        clear hlim hs
        go_wp2_with (fail)
        obtain ⟨w8, e8, P8, Q8, S8⟩ := put2 (w0 := w) (c0 := .slice sa t.canon.nodes.length sc) (c1 := .int .i64 t.canon.root) K37h.out B7.out (by have := HB0.out; omega)
        rw [e8]
        obtain ⟨u0, u1⟩ := box2 P8
        refine bodyPost_ret (v := .tuple #[.agg #[.slice sa t.canon.nodes.length sc, .int .i64 t.canon.root], .int .i64 0]) (by simp [results, Try.results27, go_sem, u0, u1]) rfl ?_
        rw [← HLIM.out]
        first | exact FIN.out w8 Q8 S8 | (rw [← HB0.out]; exact FIN.out w8 Q8 S8)
      · have hlim : lim (.agg #[.slice sa t.canon.nodes.length sc, .int .i64 t.canon.root]) t.canon.nodes.length = .tuple #[.agg dg0, .int .i64 2] := by unfold lim; rw [if_neg hs]
        have HLIM := Lib.hid hlim
        rw [hlim]
        clear hlim hs
        go_wp2_with (fail)
        obtain ⟨w8, e8, P8, Q8, S8⟩ := put2 (w0 := w) (c0 := .slice none 0 0) (c1 := .int .i64 0) K37h.out B7.out (by have := HB0.out; omega)
        rw [e8]
        obtain ⟨u0, u1⟩ := box2 P8
        refine bodyPost_ret (v := .tuple #[.agg dg0, .int .i64 2]) (by simp [results, Try.results27, go_sem, u0, u1]) rfl ?_
        rw [← HLIM.out]
        first | exact FIN.out w8 Q8 S8 | (rw [← HB0.out]; exact FIN.out w8 Q8 S8)
  · have HE := Lib.hid (errR_bad (v := v) hc)
    obtain ⟨c, hcq⟩ : ∃ c, code Da = c := ⟨_, rfl⟩
    rw [hcq] at hc HE ⊢
    have hne : (c != 0) = true := by simpa using hc
    have HC := Lib.hid hc
    clear hcq hc
    go_wp2_with (fail)
    obtain ⟨w6, e6, P6, Q6, -⟩ := put2 (w0 := w) (c0 := .slice none 0 0) (c1 := .int .i64 0) K35.out B5.out (by have := HB0.out; omega)
    rw [e6]
    obtain ⟨u0, u1⟩ := box2 P6
    refine bodyPost_ret (v := .tuple #[.agg dg0, .int .i64 c]) (by simp [results, Try.results27, go_sem, u0, u1]) rfl ?_
    exact ⟨⟨fun _ => by rw [HE.out], fun h => absurd (HE.out.symm.trans h) HC.out⟩, by first | exact Q6 | (rw [← HB0.out]; exact Q6)⟩

end Go.Proofs.Ytohmibmakelclaa

namespace Go.Proofs.Ytohmibmakelclaa
set_option linter.unusedVariables false
set_option linter.unusedSimpArgs false
open Go.RowKit

set_option maxRecDepth 100000 in
set_option maxHeartbeats 400000 in
theorem opExists (w : World) (B : Nat) : OpDoes w B 78 #[] (fun x y _ => x || y) := by
  refine ⟨fun args w => by go_simp, fun w _ x y z => ?_⟩
  cases x <;> cases y <;> cases z
  all_goals
    go_enter Try.func78, Try.ntmps78
    go_wp2_with (fail)
    go_ret
    exact ⟨rfl, Below.refl _ _⟩

theorem lim_tuple (a : Option Addr) (n k : Nat) (r : Int) (m : Nat) : ∃ (a' : Option Addr) (n' k' : Nat) (r' c' : Int), lim (.agg #[.slice a n k, .int .i64 r]) m = .tuple #[.agg #[.slice a' n' k', .int .i64 r'], .int .i64 c'] := by
  unfold lim
  split
  · exact ⟨a, n, k, r, 0, rfl⟩
  · exact ⟨none, 0, 0, 0, 2, rfl⟩

set_option maxRecDepth 100000 in
set_option maxHeartbeats 2000000 in
theorem exists_any (w : World) (va : Value) (Da : Dg) (ha : DgAt w NoB va Da) (v : Int) :
    Calls Try.prog 34 #[va, .int .i64 v] w fun e w' => Gives w w' e (errR Da v) (fun x => Da.tree.ev (upd x v.toNat false) || Da.tree.ev (upd x v.toNat true)) ∧ Below w.heap.size w w' := by
  obtain ⟨aa, ca, rfl⟩ := ha.shape
  obtain ⟨w0, b0, e0, hb0, z0, h0, B0⟩ := laid w #[.slice aa Da.nodes.length ca, .int .i64 Da.root] 28
  obtain ⟨w3, b3, e3, hb3, z3, h3, B3⟩ := laid w0 dg0 28
  obtain rfl : b3 = b0 + 1 := by omega
  replace z3 : w3.heap.size = b0 + 2 := by omega
  clear hb3
  have BW : Hid (Below w.heap.size w w3) := B0.trans (B3.mono B0.size)
  have K0 := Lib.hid (heap_below B3 h0)
  obtain ⟨x0, x1⟩ := box2 K0.out
  have K3 := Lib.hid h3; have Z3 := Lib.hid z3; have HB0 := Lib.hid hb0
  have HA := Lib.hid (ha.below BW.out)
  clear h0 h3 B0 B3 ha
  go_enter Try.func34, Try.ntmps34
  go_wp2_with (fail)
  refine (check_any w3 _ Da HA.out).mono ?_
  rintro e w5 ⟨rfl, hb5⟩
  have B5 : Hid (Below w.heap.size w w5) := BW.out.trans (hb5.mono BW.out.size)
  have K05 := Lib.hid (heap_below hb5 K0.out); have K35 := Lib.hid (heap_below hb5 K3.out)
  have HA5 := Lib.hid (HA.out.below hb5)
  have Z5 : Hid (b0 + 2 ≤ w5.heap.size) := by show _ ≤ _; have := hb5.size; have := Z3.out; omega
  clear hb5 x0 x1 e0 e3 z0 z3
  obtain ⟨x0, x1⟩ := box2 K05.out
  obtain ⟨r0, r1⟩ := box2 (r := 0) (S := .slice none 0 0) K35.out
  have rf := frozen_box K35.out
  by_cases hc : code Da = 0
  · by_cases hv : v < 0 ∨ 63 < v
    · have HE := Lib.hid (errR_arg hc hv)
      rw [hc]
      have hcase : v < 0 ∨ (0 ≤ v ∧ 63 < v) := by omega
      clear hv hc
      rcases hcase with h1 | ⟨h1, h2⟩
      all_goals
        go_wp2_with (fail)
        obtain ⟨w6, e6, P6, Q6, -⟩ := put2 (w0 := w) (c0 := .slice none 0 0) (c1 := .int .i64 0) K35.out B5.out (by have := HB0.out; omega)
        rw [e6]
        obtain ⟨u0, u1⟩ := box2 P6
        refine bodyPost_ret (v := .tuple #[.agg dg0, .int .i64 1]) (by simp [results, Try.results34, go_sem, u0, u1]) rfl ?_
        exact ⟨⟨fun _ => by rw [HE.out], fun h => absurd (HE.out.symm.trans h) (by decide)⟩, by first | exact Q6 | (rw [← HB0.out]; exact Q6)⟩
    · have HE := Lib.hid (errR_zero hc (by omega) (by omega) : errR Da v = 0)
      obtain ⟨hl, hva⟩ := code_zero hc
      obtain ⟨a1, a2, a3, -⟩ := (valid_iff Da).1 hva
      obtain ⟨u, hu⟩ : ∃ u : Nat, v = (u : Int) := ⟨v.toNat, by omega⟩
      subst hu
      have hu63 : u ≤ 63 := by omega
      have hu0 : (0 : Int) ≤ (u : Int) := by omega
      have hu1 : (u : Int) ≤ 63 := by omega
      rw [hc]
      clear hc hv hva
      go_wp2_with (fail)
      have HV := Lib.hid a1; have HL := Lib.hid hl
      have B5d : Hid (Below w.heap.size w w5.drew) := B5.out.drew
      have HA5d : Hid (DgAt w5.drew NoB (.agg #[.slice aa Da.nodes.length ca, .int .i64 Da.root]) Da) := HA5.out.below ((Below.refl _ _).drew)
      have K05d : Hid (w5.drew.heap[b0]? = some (.cells #[.slice aa Da.nodes.length ca, .int .i64 Da.root] 28 (0, 0))) := K05.out
      have K35d : Hid (w5.drew.heap[b0 + 1]? = some (.cells dg0 28 (0, 0))) := K35.out
      refine wp_region_held_drew (S := fun w' => w'.cell? ⟨b0, 0, none⟩ = some (.slice aa Da.nodes.length ca) ∧ w'.cell? ⟨b0, 1, none⟩ = some (.int .i64 Da.root)) (by kernel_rfl) (box2 K05d.out) (fun hS => ?_)
      refine wpAnyH_take (i := 0) (v := (.agg #[.slice aa Da.nodes.length ca, .int .i64 Da.root])) rfl (by kernel_rfl) (by kernel_rfl) (by kernel_rfl) (fun _ _ _ h => h) (Or.inl ⟨by rfl, ?_⟩) hS ?_
      · intro w hSw
        go_split_ands
        go_simp
      try simp only [Act.put, List.getElem_toArray, List.getElem_cons_zero, List.getElem_cons_succ, List.setIfInBounds_toArray, List.set_cons_zero, List.set_cons_succ]
      refine wpAnyH_take (i := 1) (v := .int .i64 (u : Int)) rfl (by kernel_rfl) (by kernel_rfl) (by kernel_rfl) (fun _ _ _ h => h) (Or.inl ⟨by rfl, ?_⟩) hS ?_
      · intro w hSw
        go_split_ands
        go_simp
      try simp only [Act.put, List.getElem_toArray, List.getElem_cons_zero, List.getElem_cons_succ, List.setIfInBounds_toArray, List.set_cons_zero, List.set_cons_succ]
      refine wpAnyH_take (i := 3) (v := (.agg #[.slice aa Da.nodes.length ca, .int .i64 Da.root])) rfl (by kernel_rfl) (by kernel_rfl) (by kernel_rfl) (fun _ _ _ h => h) (Or.inl ⟨by rfl, ?_⟩) hS ?_
      · intro w hSw
        go_split_ands
        go_simp
      try simp only [Act.put, List.getElem_toArray, List.getElem_cons_zero, List.getElem_cons_succ, List.setIfInBounds_toArray, List.set_cons_zero, List.set_cons_succ]
      refine wpAnyH_take (i := 4) (v := .int .i64 (u : Int)) rfl (by kernel_rfl) (by kernel_rfl) (by kernel_rfl) (fun _ _ _ h => h) (Or.inl ⟨by rfl, ?_⟩) hS ?_
      · intro w hSw
        go_split_ands
        go_simp
      try simp only [Act.put, List.getElem_toArray, List.getElem_cons_zero, List.getElem_cons_succ, List.setIfInBounds_toArray, List.set_cons_zero, List.set_cons_succ]
      refine wpAnyH_take (i := 6) (v := .agg dg0) rfl (by kernel_rfl) (by kernel_rfl) (by kernel_rfl) (fun _ _ _ h => h) (Or.inl ⟨by rfl, ?_⟩) hS ?_
      · intro w hSw
        go_split_ands
        go_simp
      try simp only [Act.put, List.getElem_toArray, List.getElem_cons_zero, List.getElem_cons_succ, List.setIfInBounds_toArray, List.set_cons_zero, List.set_cons_succ]
      refine wpAnyH_ready (rs := [2]) (by kernel_rfl) (by simp) ?_
      refine AllReadyH.cons rfl (fun K hK => ?_) AllReadyH.nil
      try simp only [Act.put, List.getElem_toArray, List.getElem_cons_zero, List.getElem_cons_succ, List.setIfInBounds_toArray, List.set_cons_zero, List.set_cons_succ]
      go_simp
      refine (fixed_any w5.drew (.agg #[.slice aa Da.nodes.length ca, .int .i64 Da.root]) Da HA5d.out HV.out HL.out a2 a3 u hu63 false).mono ?_
      rintro e w6 ⟨r0', t0, rfl, ⟨hg0, hl0⟩, hM0, hb6⟩
      obtain ⟨sa0, sc0, rfl⟩ := (hM0 NoB (fun b h => h.elim)).shape
      have B6 : Hid (Below w.heap.size w w6) := B5d.out.trans (hb6.mono B5d.out.size)
      have K06 := Lib.hid (heap_below hb6 K05d.out); have K36 := Lib.hid (heap_below hb6 K35d.out); have HA6 := Lib.hid (HA5d.out.below hb6)
      have HD0 : Hid (DgAt w6 NoB (.agg #[.slice sa0 t0.canon.nodes.length sc0, .int .i64 t0.canon.root]) t0.canon) := hM0 NoB (fun b h => h.elim)
      have HG0 := Lib.hid hg0; have HL0 : Hid (t0.canon.nodes.length ≤ 4096) := Nat.le_trans hl0 HL.out
      clear hM0 hb6 hg0 hl0
      refine hK.out _ _ (box2 K06.out) (fun hS => ?_)
      clear hK K
      try simp only [Act.put, List.getElem_toArray, List.getElem_cons_zero, List.getElem_cons_succ, List.setIfInBounds_toArray, List.set_cons_zero, List.set_cons_succ]
      refine wpAnyH_ready (rs := [5]) (by kernel_rfl) (by simp) ?_
      refine AllReadyH.cons rfl (fun K hK => ?_) AllReadyH.nil
      try simp only [Act.put, List.getElem_toArray, List.getElem_cons_zero, List.getElem_cons_succ, List.setIfInBounds_toArray, List.set_cons_zero, List.set_cons_succ]
      go_simp
      refine (fixed_any w6 (.agg #[.slice aa Da.nodes.length ca, .int .i64 Da.root]) Da HA6.out HV.out HL.out a2 a3 u hu63 true).mono ?_
      rintro e w7 ⟨r1', t1, rfl, ⟨hg1, hl1⟩, hM1, hb7⟩
      obtain ⟨sa1, sc1, rfl⟩ := (hM1 NoB (fun b h => h.elim)).shape
      have B7 : Hid (Below w.heap.size w w7) := B6.out.trans (hb7.mono B6.out.size)
      have K07 := Lib.hid (heap_below hb7 K06.out); have K37 := Lib.hid (heap_below hb7 K36.out); have HD07 := Lib.hid (HD0.out.below hb7)
      have HD1 : Hid (DgAt w7 NoB (.agg #[.slice sa1 t1.canon.nodes.length sc1, .int .i64 t1.canon.root]) t1.canon) := hM1 NoB (fun b h => h.elim)
      have HG1 := Lib.hid hg1; have HL1 : Hid (t1.canon.nodes.length ≤ 4096) := Nat.le_trans hl1 HL.out
      clear hM1 hb7 hg1 hl1
      refine hK.out _ _ (box2 K07.out) (fun hS => ?_)
      clear hK K
      try simp only [Act.put, List.getElem_toArray, List.getElem_cons_zero, List.getElem_cons_succ, List.setIfInBounds_toArray, List.set_cons_zero, List.set_cons_succ]
      refine wpAnyH_take (i := 7) (v := .agg #[.slice sa0 t0.canon.nodes.length sc0, .int .i64 t0.canon.root, .slice sa1 t1.canon.nodes.length sc1, .int .i64 t1.canon.root, .slice none 0 0, .int .i64 0]) rfl (by kernel_rfl) (by kernel_rfl) (by kernel_rfl) (fun _ _ _ h => h) (Or.inl ⟨by rfl, ?_⟩) hS ?_
      · intro w hSw
        go_split_ands
        go_simp
      try simp only [Act.put, List.getElem_toArray, List.getElem_cons_zero, List.getElem_cons_succ, List.setIfInBounds_toArray, List.set_cons_zero, List.set_cons_succ]
      refine wpAnyH_ready (rs := [8]) (by kernel_rfl) (by simp) ?_
      refine AllReadyH.cons rfl (fun K hK => ?_) AllReadyH.nil
      try simp only [Act.put, List.getElem_toArray, List.getElem_cons_zero, List.getElem_cons_succ, List.setIfInBounds_toArray, List.set_cons_zero, List.set_cons_succ]
      go_simp
      refine (combine_any w7 (.slice sa0 t0.canon.nodes.length sc0) (.slice sa1 t1.canon.nodes.length sc1) (.slice none 0 0) t0.canon t1.canon zeroDg _ _ _ HD07.out HD1.out (DgAt.zero _ _) (T.canon_wf HG0.out.ok) (T.canon_wf HG1.out.ok) .nil HL0.out HL1.out (by simp) (T.canon_root HG0.out.ok).1 (T.canon_root HG1.out.ok).1 (by decide) (T.canon_root HG0.out.ok).2 (T.canon_root HG1.out.ok).2 (by decide) (opExists w7 w7.heap.size)).mono ?_
      rintro e w8 ⟨r, t, rfl, hg, hM, hb8⟩
      obtain ⟨sa, sc, rfl⟩ := (hM NoB (fun b h => h.elim)).shape
      have hlen := (hM NoB (fun b h => h.elim)).brs.len
      have HL63 : Hid (t.canon.nodes.length ≤ 9223372036854775807) := by show _ ≤ _; have := hlen.1; have := hlen.2.1; unfold maxLen at *; omega
      have B8 : Hid (Below w.heap.size w w8) := B7.out.trans (hb8.mono B7.out.size)
      have K08 := Lib.hid (heap_below hb8 K07.out); have K38 := Lib.hid (heap_below hb8 K37.out)
      have HM : Hid (∀ M : Nat → Prop, (∀ b, M b → b < w7.heap.size) → DgAt w8 M (.agg #[.slice sa t.canon.nodes.length sc, .int .i64 t.canon.root]) t.canon) := hM
      have HT : Hid (t.Ok ∧ ∀ x, t.ev x = (Da.tree.ev (upd x (u : Int).toNat false) || Da.tree.ev (upd x (u : Int).toNat true))) := by
        refine ⟨hg.ok, fun x => ?_⟩
        rw [hg.ev x, T.canon_tree HG0.out.ok, T.canon_tree HG1.out.ok, HG0.out.ev x, HG1.out.ev x]; rfl
      clear hM hb8 hg hlen
      refine hK.out _ _ (box2 K08.out) (fun hS => ?_)
      clear hK K
      try simp only [Act.put, List.getElem_toArray, List.getElem_cons_zero, List.getElem_cons_succ, List.setIfInBounds_toArray, List.set_cons_zero, List.set_cons_succ]
      refine wpAnyH_ready (rs := [9]) (by kernel_rfl) (by simp) ?_
      refine AllReadyH.cons rfl (fun K hK => ?_) AllReadyH.nil
      try simp only [Act.put, List.getElem_toArray, List.getElem_cons_zero, List.getElem_cons_succ, List.setIfInBounds_toArray, List.set_cons_zero, List.set_cons_succ]
      go_simp
      refine (limited_any w8 sa t.canon.nodes.length sc t.canon.root HL63.out).mono ?_
      rintro e w9 ⟨rfl, hb9⟩
      have B9 : Hid (Below w.heap.size w w9) := B8.out.trans (hb9.mono B8.out.size)
      have K09 := Lib.hid (heap_below hb9 K08.out); have K39 := Lib.hid (heap_below hb9 K38.out); have HB9 := Lib.hid hb9
      obtain ⟨la, ln, lk, lr, lc, hlim⟩ := lim_tuple sa t.canon.nodes.length sc t.canon.root t.canon.nodes.length
      have HLIM := Lib.hid hlim
      rw [hlim]
      clear hlim hb9
      refine hK.out _ _ (box2 K09.out) (fun hS => ?_)
      clear hK K
      try simp only [Act.put, List.getElem_toArray, List.getElem_cons_zero, List.getElem_cons_succ, List.setIfInBounds_toArray, List.set_cons_zero, List.set_cons_succ]
      refine wpAnyH_take (i := 10) (v := .agg #[.slice la ln lk, .int .i64 lr]) rfl (by kernel_rfl) (by kernel_rfl) (by kernel_rfl) (fun _ _ _ h => h) (Or.inl ⟨by rfl, ?_⟩) hS ?_
      · intro w hSw
        go_split_ands
        go_simp
      try simp only [Act.put, List.getElem_toArray, List.getElem_cons_zero, List.getElem_cons_succ, List.setIfInBounds_toArray, List.set_cons_zero, List.set_cons_succ]
      refine wpAnyH_take (i := 11) (v := .int .i64 lc) rfl (by kernel_rfl) (by kernel_rfl) (by kernel_rfl) (fun _ _ _ h => h) (Or.inl ⟨by rfl, ?_⟩) hS ?_
      · intro w hSw
        go_split_ands
        go_simp
      try simp only [Act.put, List.getElem_toArray, List.getElem_cons_zero, List.getElem_cons_succ, List.setIfInBounds_toArray, List.set_cons_zero, List.set_cons_succ]
      obtain ⟨s0, s1⟩ := box2 (r := 0) (S := .slice none 0 0) K39.out
      have sf := frozen_box K39.out
      obtain ⟨w10, e10, P10, Q10, S10⟩ := put2 (w0 := w) (c0 := .slice la ln lk) (c1 := .int .i64 lr) K39.out B9.out (by have := HB0.out; omega)
      have K010 : Hid (w10.heap[b0]? = some (.cells #[.slice aa Da.nodes.length ca, .int .i64 Da.root] 28 (0, 0))) := (S10.block b0 (by have := K09.out; rw [Array.getElem?_eq_some_iff] at this; exact this.1) (by omega)).trans K09.out
      have HP10 := Lib.hid P10; have HQ10 := Lib.hid Q10; have HS10 := Lib.hid S10
      clear P10 Q10 S10
      refine wpAnyH_ready (rs := [12]) (by kernel_rfl) (by simp) ?_
      refine AllReadyH.cons rfl (fun K hK => ?_) AllReadyH.nil
      try simp only [Act.put, List.getElem_toArray, List.getElem_cons_zero, List.getElem_cons_succ, List.setIfInBounds_toArray, List.set_cons_zero, List.set_cons_succ]
      go_simp
      refine hK.out _ _ (box2 K010.out) (fun hS => ?_)
      clear hK K
      try simp only [Act.put, List.getElem_toArray, List.getElem_cons_zero, List.getElem_cons_succ, List.setIfInBounds_toArray, List.set_cons_zero, List.set_cons_succ]
      refine wpAnyH_ready (rs := [13]) (by kernel_rfl) (by simp) ?_
      refine AllReadyH.cons rfl (fun K hK => ?_) AllReadyH.nil
      try simp only [Act.put, List.getElem_toArray, List.getElem_cons_zero, List.getElem_cons_succ, List.setIfInBounds_toArray, List.set_cons_zero, List.set_cons_succ]
      go_simp
      refine hK.out _ _ (box2 K010.out) (fun hS => ?_)
      clear hK K
      try simp only [Act.put, List.getElem_toArray, List.getElem_cons_zero, List.getElem_cons_succ, List.setIfInBounds_toArray, List.set_cons_zero, List.set_cons_succ]
      refine wpAnyH_done (by kernel_rfl) ?_ _
      try simp only [Act.put, List.getElem_toArray, List.getElem_cons_zero, List.getElem_cons_succ, List.setIfInBounds_toArray, List.set_cons_zero, List.set_cons_succ]
      clear hS e10 s0 s1 sf
      obtain ⟨u0, u1⟩ := box2 HP10.out
      go_wp2_with (fail)
      refine bodyPost_ret (v := .tuple #[.agg #[.slice la ln lk, .int .i64 lr], .int .i64 lc]) (by simp [results, Try.results34, go_sem, u0, u1]) rfl ?_
      rw [← HLIM.out]
      refine ⟨⟨fun h => absurd HE.out h, fun _ => ⟨_, t, HT.out.1, HT.out.2, rfl, fun M hM => ?_⟩⟩, HQ10.out⟩
      have hbz := HB0.out
      have h1 := HM.out (fun k => M k ∨ k = b0 + 1) (fun b hb => by
        rcases hb with hb | hb
        · have := hM b hb; have := B7.out.size; omega
        · have := K37.out; rw [Array.getElem?_eq_some_iff] at this; rw [hb]; exact this.1)
      exact ((h1.below HB9.out).step (HS10.out.wide (fun k hk => .inr hk))).wide (fun k hk => .inl hk)
  · have HE := Lib.hid (errR_bad (v := v) hc)
    obtain ⟨c, hcq⟩ : ∃ c, code Da = c := ⟨_, rfl⟩
    rw [hcq] at hc HE ⊢
    have hne : (c != 0) = true := by simpa using hc
    have HC := Lib.hid hc
    clear hcq hc
    go_wp2_with (fail)
    obtain ⟨w6, e6, P6, Q6, -⟩ := put2 (w0 := w) (c0 := .slice none 0 0) (c1 := .int .i64 0) K35.out B5.out (by have := HB0.out; omega)
    rw [e6]
    obtain ⟨u0, u1⟩ := box2 P6
    refine bodyPost_ret (v := .tuple #[.agg dg0, .int .i64 c]) (by simp [results, Try.results34, go_sem, u0, u1]) rfl ?_
    exact ⟨⟨fun _ => by rw [HE.out], fun h => absurd (HE.out.symm.trans h) HC.out⟩, by first | exact Q6 | (rw [← HB0.out]; exact Q6)⟩

end Go.Proofs.Ytohmibmakelclaa
