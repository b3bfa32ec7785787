/-
  The reference: combine, Union, Intersection, Complement, Minus.
  Condition: the product of the tables' lengths is at most 10^12.
-/
import Derived.Test.YtohmibmakelclaaPkO
import Derived.Test.YtohmibmakelclaaPkI
import Derived.Test.YtohmibmakelclaaPkL
import Derived.Test.YtohmibmakelclaaPkK
namespace Go.Proofs.Ytohmibmakelclaa
set_option linter.unusedVariables false
set_option linter.unusedSimpArgs false
open Go.RowKit

/-- The diagram of a set, of at most n branches. -/
def RGives (w w' : World) (e : Ending) (n : Nat) (f : (Nat → Bool) → Bool) : Prop :=
  ∃ (r : Value) (t : T), e = .returned r ∧ t.Ok ∧ (∀ x, t.ev x = f x) ∧ t.canon.nodes.length ≤ n ∧ ∀ M : Nat → Prop, (∀ b, M b → b < w.heap.size) → DgAt w' M r t.canon

/-- The result is put into a block of the caller's. -/
theorem RGives.out {w w3 w4 w8 : World} {e : Ending} {n : Nat} {f : (Nat → Bool) → Bool} (h : RGives w3 w4 e n f) {b : Nat} (hle : w.heap.size ≤ w3.heap.size) (hb : b < w3.heap.size) (hs : Step (fun k => k = b) w4 (fun k => k = b) w8) : RGives w w8 e n f := by
  obtain ⟨r, t, h1, h2, h3, h4, h5⟩ := h
  refine ⟨r, t, h1, h2, h3, h4, fun M hM => ?_⟩
  have h6 := h5 (fun k => M k ∨ k = b) (fun k hk => by
    rcases hk with hk | hk
    · have := hM k hk; omega
    · omega)
  exact (h6.step (hs.wide (fun k hk => .inr hk))).wide (fun k hk => .inl hk)
theorem RGives.shape {w w' : World} {e : Ending} {n : Nat} {f : (Nat → Bool) → Bool} (h : RGives w w' e n f) : ∃ (a : Option Addr) (m c : Nat) (r : Int), e = .returned (.agg #[.slice a m c, .int .i64 r]) := by
  obtain ⟨r, t, rfl, -, -, -, h5⟩ := h
  obtain ⟨a, c, rfl⟩ := (h5 NoB (fun b h => h.elim)).shape
  exact ⟨a, _, c, _, rfl⟩

set_option maxRecDepth 100000 in
set_option maxHeartbeats 1000000 in
theorem rcombine_any (w : World) (va vb : Value) (Da Db : Dg) (ha : DgAt w NoB va Da) (hb : DgAt w NoB vb Db) (hva : Valid Da) (hvb : Valid Db) (hN : (Da.nodes.length + 2) * (Db.nodes.length + 2) ≤ 1000000000000) (k : Nat) (hk : k < 3) :
    Calls Try.prog 103 #[va, vb, .int .i64 (k : Int)] w fun e w' => RGives w w' e ((Da.nodes.length + 2) * (Db.nodes.length + 2)) (fun x => opOf k (Da.tree.ev x) (Db.tree.ev x)) ∧ Below w.heap.size w w' := by
  obtain ⟨aa, ca, rfl⟩ := ha.shape
  obtain ⟨ab, cb, rfl⟩ := hb.shape
  obtain ⟨a1, a2, a3, -⟩ := (valid_iff Da).1 hva
  obtain ⟨d1, d2, d3, -⟩ := (valid_iff Db).1 hvb
  obtain ⟨na, hna⟩ : ∃ n : Nat, Da.root = (n : Int) := ⟨Da.root.toNat, by omega⟩
  obtain ⟨nb, hnb⟩ : ∃ n : Nat, Db.root = (n : Int) := ⟨Db.root.toNat, by omega⟩
  obtain ⟨w0, b0, e0, hb0, z0, h0, B0⟩ := laid w #[.slice aa Da.nodes.length ca, .int .i64 Da.root] 28
  obtain ⟨w1, b1, e1, hb1, z1, h1, B1⟩ := laid w0 #[.slice ab Db.nodes.length cb, .int .i64 Db.root] 28
  obtain rfl : b1 = b0 + 1 := by omega
  replace z1 : w1.heap.size = b0 + 2 := by omega
  obtain ⟨w2, b2, e2, hb2, z2, h2, B2⟩ := laid w1 dg0 28
  obtain rfl : b2 = b0 + 2 := by omega
  replace z2 : w2.heap.size = b0 + 3 := by omega
  obtain ⟨w3, b3, e3, hb3, z3, h3, B3⟩ := laid w2 #[.slice aa Da.nodes.length ca, .int .i64 Da.root, .slice ab Db.nodes.length cb, .int .i64 Db.root, .int .i64 (k : Int), .slice none 0 0, .slice none 0 0] 140
  obtain rfl : b3 = b0 + 3 := by omega
  replace z3 : w3.heap.size = b0 + 4 := by omega
  clear hb1 hb2 hb3
  have B23 := B2.trans (B3.mono B2.size)
  have B13 := B1.trans (B23.mono B1.size)
  have BW : Hid (Below w.heap.size w w3) := B0.trans (B13.mono B0.size)
  obtain ⟨x0, x1⟩ := box2 (heap_below (B1.trans (B2.mono B1.size)) h0)
  obtain ⟨y0, y1⟩ := box2 (heap_below B2 h1)
  obtain ⟨x0', x1'⟩ := box2 (heap_below B13 h0)
  obtain ⟨y0', y1'⟩ := box2 (heap_below B23 h1)
  have hfar := (Step.of_below BW.out NoB).to (M := NoB) (M' := fun k => b0 ≤ k) (fun _ h => h) (fun k hk => .inr (by omega))
  have INV : Hid (AInv w w3 b0 k Da Db (.slice aa Da.nodes.length ca) (.slice ab Db.nodes.length cb) (b0 + 3) [] (.slice none 0 0) [] (.slice none 0 0)) :=
    ⟨h3, ha.step hfar, hb.step hfar, World.ownsRow_nil _ _ _ _, World.ownsRow_nil _ _ _ _, .nil, (fun q hq => by cases hq), by simp, BW.out.mono (by omega), by omega⟩
  have K2 := Lib.hid (heap_below B3 h2); have HB0 := Lib.hid hb0; have HWA := Lib.hid a1; have HWB := Lib.hid d1; have HVA := Lib.hid hva; have HVB := Lib.hid hvb
  have RT := rat_any (w0 := w) (B := b0) (k := k) (Da := Da) (Db := Db) (Sa := .slice aa Da.nodes.length ca) (Sb := .slice ab Db.nodes.length cb) (p := b0 + 3) hk a1 d1 (by omega) (na + nb) na nb (Nat.le_refl _) (by omega) (by omega)
  have HRT := Lib.hid (RT w3 [] _ [] _ INV.out (Nat.le_refl _))
  have HTA : Hid (Da.tree = tr Da.nodes na) := by show _ = _; unfold Dg.tree; rw [hna, Int.toNat_natCast]
  have HTB : Hid (Db.tree = tr Db.nodes nb) := by show _ = _; unfold Dg.tree; rw [hnb, Int.toNat_natCast]
  rw [hna] at e0 e3 x1 x1' ⊢
  rw [hnb] at e1 e3 y1 y1' ⊢
  have hNH := Lib.hid hN
  clear h0 h1 h2 h3 B0 B1 B2 B3 B23 B13 ha hb hfar RT a1 d1 hva hvb hN
  go_enter Try.func103, Try.ntmps103
  go_wp2_with (fail)
  refine HRT.out.mono ?_
  rintro e w4 ⟨r, x, S', y, SS', rfl, hI, hs, hr, hg, -, hz⟩
  rw [List.nil_append] at hI hr hg hz
  rw [List.nil_append] at hI hz
  have hxl : x.length ≤ (Da.nodes.length + 2) * (Db.nodes.length + 2) := Nat.le_trans hz hI.len
  have R4 := (hs.block (b0 + 2) (by have := K2.out; rw [Array.getElem?_eq_some_iff] at this; exact this.1) (by
    rintro (h | h | h)
    · omega
    · simp [Value.ownBlock] at h
    · simp [Value.ownBlock] at h)).trans K2.out
  have B4 : Hid (Below w.heap.size w w4) := by
    refine BW.out.trans (Step.belowB hs (by exact BW.out.size) ?_)
    have := HB0.out
    rintro k (h | h | h)
    · omega
    · simp [Value.ownBlock] at h
    · simp [Value.ownBlock] at h
  obtain ⟨sa, sc, hS'⟩ : ∃ sa sc, S' = .slice sa x.length sc := by obtain ⟨ao, cap, e, -⟩ := ownsRow_shape hI.row; exact ⟨ao, cap, e⟩
  obtain ⟨-, -, -, -, -, c5, -⟩ := hI.cells
  have HBRS := Lib.hid (brs_of_own (M := NoB) hI.row (fun b _ h => h.elim)); have HWF := Lib.hid hI.wf
  have HR := Lib.hid hr; have HG := Lib.hid hg; have HXL := Lib.hid hxl; have HR4 := Lib.hid R4
  subst hS'
  clear hI hs hr hg hz hxl R4 x0 x1 y0 y1 x0' x1' y0' y1' HRT e0 e1 e2 e3
  go_wp2_with (fail)
  refine (numbered_any w4 _ x HBRS.out HWF.out (Nat.le_trans HXL.out hNH.out) r HR.out).mono ?_
  rintro e w5 ⟨rv, rfl, hM, hb5⟩
  obtain ⟨la, lc, rfl⟩ := (hM NoB (fun b h => h.elim)).shape
  have R5 := Lib.hid (heap_below hb5 HR4.out)
  have B5 : Hid (Below w.heap.size w w5) := B4.out.trans (hb5.mono B4.out.size)
  obtain ⟨g0, g1⟩ := box2 (r := 0) (S := .slice none 0 0) R5.out
  have gf := frozen_box R5.out
  have FIN : Hid (RGives w4 w5 (.returned (.agg #[.slice la (tr x r).canon.nodes.length lc, .int .i64 (tr x r).canon.root])) ((Da.nodes.length + 2) * (Db.nodes.length + 2)) (fun x => opOf k (Da.tree.ev x) (Db.tree.ev x))) :=
    ⟨_, tr x r, rfl, HG.out.ok, fun z => by rw [HG.out.ev z, HTA.out, HTB.out], Nat.le_trans (canon_len HWF.out HR.out) HXL.out, hM⟩
  clear hM hb5 c5
  go_wp2_with (fail)
  obtain ⟨w6, e6, P6, Q6, S6⟩ := put2 (w0 := w) (c0 := .slice la (tr x r).canon.nodes.length lc) (c1 := .int .i64 (tr x r).canon.root) R5.out B5.out (by have := HB0.out; omega)
  rw [e6]
  obtain ⟨u0, u1⟩ := box2 P6
  refine bodyPost_ret (v := .agg #[.slice la (tr x r).canon.nodes.length lc, .int .i64 (tr x r).canon.root]) (by simp [results, Try.results103, go_sem, u0, u1]) rfl ?_
  refine ⟨FIN.out.out (b := b0 + 2) B4.out.size (by have := HR4.out; rw [Array.getElem?_eq_some_iff] at this; exact this.1) S6, by first | exact Q6 | (rw [← HB0.out]; exact Q6)⟩

set_option maxRecDepth 100000 in
set_option maxHeartbeats 1000000 in
theorem runion_any (w : World) (va vb : Value) (Da Db : Dg) (ha : DgAt w NoB va Da) (hb : DgAt w NoB vb Db) (hva : Valid Da) (hvb : Valid Db) (hN : (Da.nodes.length + 2) * (Db.nodes.length + 2) ≤ 1000000000000) :
    Calls Try.prog 85 #[va, vb] w fun e w' => RGives w w' e ((Da.nodes.length + 2) * (Db.nodes.length + 2)) (fun x => Da.tree.ev x || Db.tree.ev x) ∧ Below w.heap.size w w' := by
  obtain ⟨aa, ca, rfl⟩ := ha.shape
  obtain ⟨ab, cb, rfl⟩ := hb.shape
  obtain ⟨w0, b0, e0, hb0, z0, h0, B0⟩ := laid w #[.slice aa Da.nodes.length ca, .int .i64 Da.root] 28
  obtain ⟨w1, b1, e1, hb1, z1, h1, B1⟩ := laid w0 #[.slice ab Db.nodes.length cb, .int .i64 Db.root] 28
  obtain rfl : b1 = b0 + 1 := by omega
  replace z1 : w1.heap.size = b0 + 2 := by omega
  obtain ⟨w2, b2, e2, hb2, z2, h2, B2⟩ := laid w1 dg0 28
  obtain rfl : b2 = b0 + 2 := by omega
  replace z2 : w2.heap.size = b0 + 3 := by omega
  clear hb1 hb2
  have B12 := B1.trans (B2.mono B1.size)
  have BW : Hid (Below w.heap.size w w2) := B0.trans (B12.mono B0.size)
  obtain ⟨x0, x1⟩ := box2 (heap_below B12 h0)
  obtain ⟨y0, y1⟩ := box2 (heap_below B2 h1)
  have K2 := Lib.hid h2; have HB0 := Lib.hid hb0; have HZ2 := Lib.hid z2
  have C := rcombine_any w2 _ _ Da Db (ha.below BW.out) (hb.below BW.out) hva hvb hN 1 (by omega)
  have HC := Lib.hid C
  clear h0 h1 h2 B0 B1 B2 B12 ha hb hva hvb hN C
  go_enter Try.func85, Try.ntmps85
  go_wp2_with (fail)
  refine HC.out.mono ?_
  rintro e w4 ⟨hG, hb4⟩
  obtain ⟨a, n, c, r, rfl⟩ := hG.shape
  have K4 := Lib.hid (heap_below hb4 K2.out)
  have B4 : Hid (Below w.heap.size w w4) := BW.out.trans (hb4.mono BW.out.size)
  obtain ⟨s0, s1⟩ := box2 (r := 0) (S := .slice none 0 0) K4.out
  have sf := frozen_box K4.out
  have HG := Lib.hid hG
  clear hb4 hG x0 x1 y0 y1 e0 e1 e2 HC
  go_wp2_with (fail)
  obtain ⟨w8, e8, P8, Q8, S8⟩ := put2 (w0 := w) (c0 := .slice a n c) (c1 := .int .i64 r) K4.out B4.out (by have := HB0.out; omega)
  rw [e8]
  obtain ⟨u0, u1⟩ := box2 P8
  refine bodyPost_ret (v := .agg #[.slice a n c, .int .i64 r]) (by simp [results, Try.results85, go_sem, u0, u1]) rfl ?_
  have FIN := HG.out.out (w := w) (b := b0 + 2) BW.out.size (by have := HZ2.out; omega) S8
  first | exact ⟨FIN, Q8⟩ | (rw [← HB0.out]; exact ⟨FIN, Q8⟩)

set_option maxRecDepth 100000 in
set_option maxHeartbeats 1000000 in
theorem rinter_any (w : World) (va vb : Value) (Da Db : Dg) (ha : DgAt w NoB va Da) (hb : DgAt w NoB vb Db) (hva : Valid Da) (hvb : Valid Db) (hN : (Da.nodes.length + 2) * (Db.nodes.length + 2) ≤ 1000000000000) :
    Calls Try.prog 86 #[va, vb] w fun e w' => RGives w w' e ((Da.nodes.length + 2) * (Db.nodes.length + 2)) (fun x => Da.tree.ev x && Db.tree.ev x) ∧ Below w.heap.size w w' := by
  obtain ⟨aa, ca, rfl⟩ := ha.shape
  obtain ⟨ab, cb, rfl⟩ := hb.shape
  obtain ⟨w0, b0, e0, hb0, z0, h0, B0⟩ := laid w #[.slice aa Da.nodes.length ca, .int .i64 Da.root] 28
  obtain ⟨w1, b1, e1, hb1, z1, h1, B1⟩ := laid w0 #[.slice ab Db.nodes.length cb, .int .i64 Db.root] 28
  obtain rfl : b1 = b0 + 1 := by omega
  replace z1 : w1.heap.size = b0 + 2 := by omega
  obtain ⟨w2, b2, e2, hb2, z2, h2, B2⟩ := laid w1 dg0 28
  obtain rfl : b2 = b0 + 2 := by omega
  replace z2 : w2.heap.size = b0 + 3 := by omega
  clear hb1 hb2
  have B12 := B1.trans (B2.mono B1.size)
  have BW : Hid (Below w.heap.size w w2) := B0.trans (B12.mono B0.size)
  obtain ⟨x0, x1⟩ := box2 (heap_below B12 h0)
  obtain ⟨y0, y1⟩ := box2 (heap_below B2 h1)
  have K2 := Lib.hid h2; have HB0 := Lib.hid hb0; have HZ2 := Lib.hid z2
  have C := rcombine_any w2 _ _ Da Db (ha.below BW.out) (hb.below BW.out) hva hvb hN 0 (by omega)
  have HC := Lib.hid C
  clear h0 h1 h2 B0 B1 B2 B12 ha hb hva hvb hN C
  go_enter Try.func86, Try.ntmps86
  go_wp2_with (fail)
  refine HC.out.mono ?_
  rintro e w4 ⟨hG, hb4⟩
  obtain ⟨a, n, c, r, rfl⟩ := hG.shape
  have K4 := Lib.hid (heap_below hb4 K2.out)
  have B4 : Hid (Below w.heap.size w w4) := BW.out.trans (hb4.mono BW.out.size)
  obtain ⟨s0, s1⟩ := box2 (r := 0) (S := .slice none 0 0) K4.out
  have sf := frozen_box K4.out
  have HG := Lib.hid hG
  clear hb4 hG x0 x1 y0 y1 e0 e1 e2 HC
  go_wp2_with (fail)
  obtain ⟨w8, e8, P8, Q8, S8⟩ := put2 (w0 := w) (c0 := .slice a n c) (c1 := .int .i64 r) K4.out B4.out (by have := HB0.out; omega)
  rw [e8]
  obtain ⟨u0, u1⟩ := box2 P8
  refine bodyPost_ret (v := .agg #[.slice a n c, .int .i64 r]) (by simp [results, Try.results86, go_sem, u0, u1]) rfl ?_
  have FIN := HG.out.out (w := w) (b := b0 + 2) BW.out.size (by have := HZ2.out; omega) S8
  first | exact ⟨FIN, Q8⟩ | (rw [← HB0.out]; exact ⟨FIN, Q8⟩)

end Go.Proofs.Ytohmibmakelclaa

namespace Go.Proofs.Ytohmibmakelclaa
set_option linter.unusedVariables false
set_option linter.unusedSimpArgs false
open Go.RowKit

theorem T.Ok.valid {t : T} (h : t.Ok) : Valid t.canon := ⟨t, h, rfl⟩
/-- A larger bound. -/
theorem RGives.mono {w w' : World} {e : Ending} {n m : Nat} {f g : (Nat → Bool) → Bool} (h : RGives w w' e n f) (hm : n ≤ m) (hf : ∀ x, f x = g x) : RGives w w' e m g := by
  obtain ⟨r, t, h1, h2, h3, h4, h5⟩ := h
  exact ⟨r, t, h1, h2, fun x => (h3 x).trans (hf x), Nat.le_trans h4 hm, h5⟩
theorem RGives.later {w0 w w' : World} {e : Ending} {n : Nat} {f : (Nat → Bool) → Bool} (h : RGives w w' e n f) (hs : w0.heap.size ≤ w.heap.size) : RGives w0 w' e n f := by
  obtain ⟨r, t, h1, h2, h3, h4, h5⟩ := h
  exact ⟨r, t, h1, h2, h3, h4, fun M hM => h5 M (fun b hb => Nat.lt_of_lt_of_le (hM b hb) hs)⟩

set_option maxRecDepth 100000 in
set_option maxHeartbeats 1000000 in
theorem rcompl_any (w : World) (va : Value) (Da : Dg) (ha : DgAt w NoB va Da) (hva : Valid Da) (hN : Da.nodes.length ≤ 100000000000) :
    Calls Try.prog 88 #[va] w fun e w' => RGives w w' e ((Da.nodes.length + 2) * 2) (fun x => !Da.tree.ev x) ∧ Below w.heap.size w w' := by
  obtain ⟨aa, ca, rfl⟩ := ha.shape
  obtain ⟨w0, b0, e0, hb0, z0, h0, B0⟩ := laid w #[.slice aa Da.nodes.length ca, .int .i64 Da.root] 28
  obtain ⟨w2, b2, e2, hb2, z2, h2, B2⟩ := laid w0 dg0 28
  obtain rfl : b2 = b0 + 1 := by omega
  replace z2 : w2.heap.size = b0 + 2 := by omega
  clear hb2
  have BW : Hid (Below w.heap.size w w2) := B0.trans (B2.mono B0.size)
  have K0 : Hid (w2.drew.heap[b0]? = some (.cells #[.slice aa Da.nodes.length ca, .int .i64 Da.root] 28 (0, 0))) := heap_below B2 h0
  have K2 : Hid (w2.drew.heap[b0 + 1]? = some (.cells dg0 28 (0, 0))) := h2
  have BWd : Hid (Below w.heap.size w w2.drew) := BW.out.drew
  have HB0 := Lib.hid hb0; have HZ2 := Lib.hid z2; have HVA := Lib.hid hva; have HA := Lib.hid ha
  clear h0 h2 B0 B2 ha hva
  go_enter Try.func88, Try.ntmps88
  go_wp2_with (fail)
  refine wp_region_held_drew (S := fun w' => w'.cell? ⟨b0, 0, none⟩ = some (.slice aa Da.nodes.length ca) ∧ w'.cell? ⟨b0, 1, none⟩ = some (.int .i64 Da.root)) (by kernel_rfl) (box2 K0.out) (fun hS => ?_)
  refine wpAnyH_take (i := 0) (v := (.agg #[.slice aa Da.nodes.length ca, .int .i64 Da.root])) rfl (by kernel_rfl) (by kernel_rfl) (by kernel_rfl) (fun _ _ _ h => h) (Or.inl ⟨by rfl, ?_⟩) hS ?_
  · intro w hSw
    go_split_ands
    go_simp
  try simp only [Act.put, List.getElem_toArray, List.getElem_cons_zero, List.getElem_cons_succ, List.setIfInBounds_toArray, List.set_cons_zero, List.set_cons_succ]
  refine wpAnyH_ready (rs := [1]) (by kernel_rfl) (by simp) ?_
  refine AllReadyH.cons rfl (fun K hK => ?_) AllReadyH.nil
  try simp only [Act.put, List.getElem_toArray, List.getElem_cons_zero, List.getElem_cons_succ, List.setIfInBounds_toArray, List.set_cons_zero, List.set_cons_succ]
  go_simp
  refine (rconstant_any w2.drew true).mono ?_
  rintro e w3 ⟨rv, rfl, hM, hb3⟩
  obtain ⟨la, lc, hrv⟩ := (hM NoB).shape
  have hl0 : (T.leaf true).canon.nodes.length = 0 := by rw [canon_leaf]; rfl
  have hr0 : (T.leaf true).canon.root = 1 := by rw [canon_leaf]; rfl
  rw [hl0, hr0] at hrv
  have B3 : Hid (Below w.heap.size w w3) := BWd.out.trans (hb3.mono BWd.out.size)
  have K03 := Lib.hid (heap_below hb3 K0.out); have K23 := Lib.hid (heap_below hb3 K2.out)
  have C := rcombine_any w3 _ rv Da (T.leaf true).canon (HA.out.below B3.out) (hM NoB) HVA.out (T.Ok.valid trivial) (by rw [hl0]; omega) 2 (by omega)
  rw [hrv, hl0] at C
  have HC := Lib.hid C
  subst hrv
  clear hM hb3 C
  refine hK.out _ _ (box2 K03.out) (fun hS => ?_)
  clear hK K
  try simp only [Act.put, List.getElem_toArray, List.getElem_cons_zero, List.getElem_cons_succ, List.setIfInBounds_toArray, List.set_cons_zero, List.set_cons_succ]
  refine wpAnyH_ready (rs := [2]) (by kernel_rfl) (by simp) ?_
  refine AllReadyH.cons rfl (fun K hK => ?_) AllReadyH.nil
  try simp only [Act.put, List.getElem_toArray, List.getElem_cons_zero, List.getElem_cons_succ, List.setIfInBounds_toArray, List.set_cons_zero, List.set_cons_succ]
  go_simp
  refine HC.out.mono ?_
  rintro e w4 ⟨hG, hb4⟩
  obtain ⟨a, n, c, r, rfl⟩ := hG.shape
  have K04 := Lib.hid (heap_below hb4 K03.out); have K24 := Lib.hid (heap_below hb4 K23.out)
  have B4 : Hid (Below w.heap.size w w4) := B3.out.trans (hb4.mono B3.out.size)
  have HG := Lib.hid (hG.mono (Nat.le_refl _) (g := fun x => !Da.tree.ev x) (fun x => by
    show opOf 2 (Da.tree.ev x) ((T.leaf true).canon.tree.ev x) = _
    rw [T.canon_tree (show (T.leaf true).Ok from trivial)]
    cases Da.tree.ev x <;> rfl))
  clear hb4 hG HC
  refine hK.out _ _ (box2 K04.out) (fun hS => ?_)
  clear hK K
  try simp only [Act.put, List.getElem_toArray, List.getElem_cons_zero, List.getElem_cons_succ, List.setIfInBounds_toArray, List.set_cons_zero, List.set_cons_succ]
  obtain ⟨s0, s1⟩ := box2 (r := 0) (S := .slice none 0 0) K24.out
  have sf := frozen_box K24.out
  obtain ⟨w8, e8, P8, Q8, S8⟩ := put2 (w0 := w) (c0 := .slice a n c) (c1 := .int .i64 r) K24.out B4.out (by have := HB0.out; omega)
  have K08 : Hid (w8.heap[b0]? = some (.cells #[.slice aa Da.nodes.length ca, .int .i64 Da.root] 28 (0, 0))) := (S8.block b0 (by have := K04.out; rw [Array.getElem?_eq_some_iff] at this; exact this.1) (by omega)).trans K04.out
  have HP8 := Lib.hid P8; have HQ8 := Lib.hid Q8; have HS8 := Lib.hid S8
  clear P8 Q8 S8
  refine wpAnyH_ready (rs := [3]) (by kernel_rfl) (by simp) ?_
  refine AllReadyH.cons rfl (fun K hK => ?_) AllReadyH.nil
  try simp only [Act.put, List.getElem_toArray, List.getElem_cons_zero, List.getElem_cons_succ, List.setIfInBounds_toArray, List.set_cons_zero, List.set_cons_succ]
  go_simp
  refine hK.out _ _ (box2 K08.out) (fun hS => ?_)
  clear hK K
  try simp only [Act.put, List.getElem_toArray, List.getElem_cons_zero, List.getElem_cons_succ, List.setIfInBounds_toArray, List.set_cons_zero, List.set_cons_succ]
  refine wpAnyH_done (by kernel_rfl) ?_ _
  try simp only [Act.put, List.getElem_toArray, List.getElem_cons_zero, List.getElem_cons_succ, List.setIfInBounds_toArray, List.set_cons_zero, List.set_cons_succ]
  clear hS e8 s0 s1 sf
  obtain ⟨u0, u1⟩ := box2 HP8.out
  go_wp2_with (fail)
  refine bodyPost_ret (v := .agg #[.slice a n c, .int .i64 r]) (by simp [results, Try.results88, go_sem, u0, u1]) rfl ?_
  have FIN := HG.out.out (w := w) (b := b0 + 1) B3.out.size (by have := K23.out; rw [Array.getElem?_eq_some_iff] at this; exact this.1) HS8.out
  exact ⟨by simpa using FIN, by first | exact HQ8.out | (rw [← HB0.out]; exact HQ8.out)⟩

set_option maxRecDepth 100000 in
set_option maxHeartbeats 1000000 in
theorem rminus_any (w : World) (va vb : Value) (Da Db : Dg) (ha : DgAt w NoB va Da) (hb : DgAt w NoB vb Db) (hva : Valid Da) (hvb : Valid Db) (hN : (Da.nodes.length + 2) * ((Db.nodes.length + 2) * 2 + 2) ≤ 1000000000000) (hNb : Db.nodes.length ≤ 100000000000) :
    Calls Try.prog 87 #[va, vb] w fun e w' => RGives w w' e ((Da.nodes.length + 2) * ((Db.nodes.length + 2) * 2 + 2)) (fun x => Da.tree.ev x && !Db.tree.ev x) ∧ Below w.heap.size w w' := by
  obtain ⟨aa, ca, rfl⟩ := ha.shape
  obtain ⟨ab, cb, rfl⟩ := hb.shape
  obtain ⟨w0, b0, e0, hb0, z0, h0, B0⟩ := laid w #[.slice aa Da.nodes.length ca, .int .i64 Da.root] 28
  obtain ⟨w1, b1, e1, hb1, z1, h1, B1⟩ := laid w0 #[.slice ab Db.nodes.length cb, .int .i64 Db.root] 28
  obtain rfl : b1 = b0 + 1 := by omega
  replace z1 : w1.heap.size = b0 + 2 := by omega
  obtain ⟨w2, b2, e2, hb2, z2, h2, B2⟩ := laid w1 dg0 28
  obtain rfl : b2 = b0 + 2 := by omega
  replace z2 : w2.heap.size = b0 + 3 := by omega
  clear hb1 hb2
  have B12 := B1.trans (B2.mono B1.size)
  have BW : Hid (Below w.heap.size w w2) := B0.trans (B12.mono B0.size)
  have K0 : Hid (w2.drew.heap[b0]? = some (.cells #[.slice aa Da.nodes.length ca, .int .i64 Da.root] 28 (0, 0))) := heap_below B12 h0
  have K1 : Hid (w2.drew.heap[b0 + 1]? = some (.cells #[.slice ab Db.nodes.length cb, .int .i64 Db.root] 28 (0, 0))) := heap_below B2 h1
  have K2 : Hid (w2.drew.heap[b0 + 2]? = some (.cells dg0 28 (0, 0))) := h2
  have BWd : Hid (Below w.heap.size w w2.drew) := BW.out.drew
  have HB0 := Lib.hid hb0; have HVA := Lib.hid hva; have HA := Lib.hid ha; have HVB := Lib.hid hvb; have HB := Lib.hid hb; have HN := Lib.hid hN
  have SX : Hid (∀ w' : World, w'.heap[b0]? = some (.cells #[.slice aa Da.nodes.length ca, .int .i64 Da.root] 28 (0, 0)) → w'.heap[b0 + 1]? = some (.cells #[.slice ab Db.nodes.length cb, .int .i64 Db.root] 28 (0, 0)) → w'.cell? ⟨b0, 0, none⟩ = some (.slice aa Da.nodes.length ca) ∧ w'.cell? ⟨b0, 1, none⟩ = some (.int .i64 Da.root) ∧ w'.cell? ⟨b0 + 1, 0, none⟩ = some (.slice ab Db.nodes.length cb) ∧ w'.cell? ⟨b0 + 1, 1, none⟩ = some (.int .i64 Db.root)) := fun w' h1 h2 => ⟨(box2 h1).1, (box2 h1).2, (box2 h2).1, (box2 h2).2⟩
  clear h0 h1 h2 B0 B1 B2 B12 ha hva hb hvb hN
  go_enter Try.func87, Try.ntmps87
  go_wp2_with (fail)
  refine wp_region_held_drew (S := fun w' => w'.cell? ⟨b0, 0, none⟩ = some (.slice aa Da.nodes.length ca) ∧ w'.cell? ⟨b0, 1, none⟩ = some (.int .i64 Da.root) ∧ w'.cell? ⟨b0 + 1, 0, none⟩ = some (.slice ab Db.nodes.length cb) ∧ w'.cell? ⟨b0 + 1, 1, none⟩ = some (.int .i64 Db.root)) (by kernel_rfl) (SX.out _ K0.out K1.out) (fun hS => ?_)
  refine wpAnyH_take (i := 0) (v := (.agg #[.slice aa Da.nodes.length ca, .int .i64 Da.root])) rfl (by kernel_rfl) (by kernel_rfl) (by kernel_rfl) (fun _ _ _ h => h) (Or.inl ⟨by rfl, ?_⟩) hS ?_
  · intro w hSw
    go_split_ands
    go_simp
  try simp only [Act.put, List.getElem_toArray, List.getElem_cons_zero, List.getElem_cons_succ, List.setIfInBounds_toArray, List.set_cons_zero, List.set_cons_succ]
  refine wpAnyH_take (i := 1) (v := (.agg #[.slice ab Db.nodes.length cb, .int .i64 Db.root])) rfl (by kernel_rfl) (by kernel_rfl) (by kernel_rfl) (fun _ _ _ h => h) (Or.inl ⟨by rfl, ?_⟩) hS ?_
  · intro w hSw
    go_split_ands
    go_simp
  try simp only [Act.put, List.getElem_toArray, List.getElem_cons_zero, List.getElem_cons_succ, List.setIfInBounds_toArray, List.set_cons_zero, List.set_cons_succ]
  refine wpAnyH_ready (rs := [2]) (by kernel_rfl) (by simp) ?_
  refine AllReadyH.cons rfl (fun K hK => ?_) AllReadyH.nil
  try simp only [Act.put, List.getElem_toArray, List.getElem_cons_zero, List.getElem_cons_succ, List.setIfInBounds_toArray, List.set_cons_zero, List.set_cons_succ]
  go_simp
  refine (rcompl_any w2.drew _ Db (HB.out.below BWd.out) HVB.out hNb).mono ?_
  rintro e w3 ⟨⟨rv, t, rfl, hok, hev, hlen, hM⟩, hb3⟩
  obtain ⟨la, lc, hrv⟩ := (hM NoB (fun b h => h.elim)).shape
  have B3 : Hid (Below w.heap.size w w3) := BWd.out.trans (hb3.mono BWd.out.size)
  have K03 := Lib.hid (heap_below hb3 K0.out); have K13 := Lib.hid (heap_below hb3 K1.out); have K23 := Lib.hid (heap_below hb3 K2.out)
  have hprod : (Da.nodes.length + 2) * (t.canon.nodes.length + 2) ≤ (Da.nodes.length + 2) * ((Db.nodes.length + 2) * 2 + 2) := Nat.mul_le_mul_left _ (by omega)
  have C := rinter_any w3 _ rv Da t.canon (HA.out.below B3.out) (hM NoB (fun b h => h.elim)) HVA.out hok.valid (Nat.le_trans hprod HN.out)
  rw [hrv] at C
  have HC := Lib.hid C; have HOK := Lib.hid hok; have HEV := Lib.hid hev; have HPR := Lib.hid hprod
  subst hrv
  clear hM hb3 C hok hev hprod
  refine hK.out _ _ (SX.out _ K03.out K13.out) (fun hS => ?_)
  clear hK K
  try simp only [Act.put, List.getElem_toArray, List.getElem_cons_zero, List.getElem_cons_succ, List.setIfInBounds_toArray, List.set_cons_zero, List.set_cons_succ]
  refine wpAnyH_ready (rs := [3]) (by kernel_rfl) (by simp) ?_
  refine AllReadyH.cons rfl (fun K hK => ?_) AllReadyH.nil
  try simp only [Act.put, List.getElem_toArray, List.getElem_cons_zero, List.getElem_cons_succ, List.setIfInBounds_toArray, List.set_cons_zero, List.set_cons_succ]
  go_simp
  refine HC.out.mono ?_
  rintro e w4 ⟨hG, hb4⟩
  obtain ⟨a, n, c, r, rfl⟩ := hG.shape
  have K04 := Lib.hid (heap_below hb4 K03.out); have K14 := Lib.hid (heap_below hb4 K13.out); have K24 := Lib.hid (heap_below hb4 K23.out)
  have B4 : Hid (Below w.heap.size w w4) := B3.out.trans (hb4.mono B3.out.size)
  have HG := Lib.hid (hG.mono HPR.out (g := fun x => Da.tree.ev x && !Db.tree.ev x) (fun x => by
    show (Da.tree.ev x && t.canon.tree.ev x) = _
    rw [T.canon_tree HOK.out, HEV.out x]))
  clear hb4 hG HC
  refine hK.out _ _ (SX.out _ K04.out K14.out) (fun hS => ?_)
  clear hK K
  try simp only [Act.put, List.getElem_toArray, List.getElem_cons_zero, List.getElem_cons_succ, List.setIfInBounds_toArray, List.set_cons_zero, List.set_cons_succ]
  obtain ⟨s0, s1⟩ := box2 (r := 0) (S := .slice none 0 0) K24.out
  have sf := frozen_box K24.out
  obtain ⟨w8, e8, P8, Q8, S8⟩ := put2 (w0 := w) (c0 := .slice a n c) (c1 := .int .i64 r) K24.out B4.out (by have := HB0.out; omega)
  have K08 : Hid (w8.heap[b0]? = some (.cells #[.slice aa Da.nodes.length ca, .int .i64 Da.root] 28 (0, 0))) := (S8.block b0 (by have := K04.out; rw [Array.getElem?_eq_some_iff] at this; exact this.1) (by omega)).trans K04.out
  have K18 : Hid (w8.heap[b0 + 1]? = some (.cells #[.slice ab Db.nodes.length cb, .int .i64 Db.root] 28 (0, 0))) := (S8.block (b0 + 1) (by have := K14.out; rw [Array.getElem?_eq_some_iff] at this; exact this.1) (by omega)).trans K14.out
  have HP8 := Lib.hid P8; have HQ8 := Lib.hid Q8; have HS8 := Lib.hid S8
  clear P8 Q8 S8
  refine wpAnyH_ready (rs := [4]) (by kernel_rfl) (by simp) ?_
  refine AllReadyH.cons rfl (fun K hK => ?_) AllReadyH.nil
  try simp only [Act.put, List.getElem_toArray, List.getElem_cons_zero, List.getElem_cons_succ, List.setIfInBounds_toArray, List.set_cons_zero, List.set_cons_succ]
  go_simp
  refine hK.out _ _ (SX.out _ K08.out K18.out) (fun hS => ?_)
  clear hK K
  try simp only [Act.put, List.getElem_toArray, List.getElem_cons_zero, List.getElem_cons_succ, List.setIfInBounds_toArray, List.set_cons_zero, List.set_cons_succ]
  refine wpAnyH_done (by kernel_rfl) ?_ _
  try simp only [Act.put, List.getElem_toArray, List.getElem_cons_zero, List.getElem_cons_succ, List.setIfInBounds_toArray, List.set_cons_zero, List.set_cons_succ]
  clear hS e8 s0 s1 sf
  obtain ⟨u0, u1⟩ := box2 HP8.out
  go_wp2_with (fail)
  refine bodyPost_ret (v := .agg #[.slice a n c, .int .i64 r]) (by simp [results, Try.results87, go_sem, u0, u1]) rfl ?_
  have FIN := HG.out.out (w := w) (b := b0 + 2) B3.out.size (by have := K23.out; rw [Array.getElem?_eq_some_iff] at this; exact this.1) HS8.out
  exact ⟨FIN, by first | exact HQ8.out | (rw [← HB0.out]; exact HQ8.out)⟩

end Go.Proofs.Ytohmibmakelclaa

namespace Go.Proofs.Ytohmibmakelclaa
set_option linter.unusedVariables false
set_option linter.unusedSimpArgs false

/-- The branches of a tree, each counted where it stands. -/
def T.nn : T → Nat
  | .leaf _ => 0
  | .node _ l h => l.nn + h.nn + 1
theorem T.visit_len : ∀ (t : T) (s : List T), (t.visit s).length ≤ s.length + t.nn
  | .leaf b, s => by simp [T.visit, T.nn]
  | .node v l h, s => by
    simp only [T.visit, T.nn]
    split
    · omega
    · have h1 := T.visit_len l s
      have h2 := T.visit_len h (l.visit s)
      rw [List.length_append, List.length_singleton]; omega
theorem T.nn_le {n : Nat} (hn : n ≤ 64) : ∀ (t : T), t.Ok → t.bel n → t.nn + 1 ≤ 2 ^ (n - t.lv)
  | .leaf b, _, _ => by simp only [T.nn, T.lv]; rw [show n - 64 = 0 by omega]; simp
  | .node v l h, ok, hb => by
    obtain ⟨h0, h1, h2, h3, h4, h5⟩ := ok
    have i1 := T.nn_le hn l h4 hb.2.1
    have i2 := T.nn_le hn h h5 hb.2.2
    have hv := hb.1
    have e1 : 2 ^ (n - l.lv) ≤ 2 ^ (n - v - 1) := Nat.pow_le_pow_right (by omega) (by omega)
    have e2 : 2 ^ (n - h.lv) ≤ 2 ^ (n - v - 1) := Nat.pow_le_pow_right (by omega) (by omega)
    have e3 : 2 ^ (n - v) = 2 * 2 ^ (n - v - 1) := by
      rw [← Nat.pow_succ']
      congr 1; omega
    simp only [T.nn, T.lv]; omega
theorem T.Ok.small {t : T} (ok : t.Ok) {n : Nat} (hb : t.bel n) (hn : n ≤ 6) : t.canon.nodes.length ≤ 63 := by
  have h1 := T.visit_len t []
  have h2 := T.nn_le (n := n) (by omega) t ok hb
  have h3 : 2 ^ (n - t.lv) ≤ 2 ^ 6 := Nat.pow_le_pow_right (by omega) (by omega)
  show (table _).length ≤ 63
  rw [table_length]
  simp at h1
  have h4 : (2 : Nat) ^ 6 = 64 := rfl
  omega

/-- A set that does not depend on the conditions from n on. -/
def Dep (n : Nat) (f : (Nat → Bool) → Bool) : Prop := ∀ c k b, n ≤ k → f (upd c k b) = f c
theorem T.dep {t : T} {n : Nat} (h : t.bel n) : Dep n t.ev := fun c k b hk => T.bel_upd h c k hk b
theorem T.bel_mono {t : T} {n m : Nat} (h : t.bel n) (hm : n ≤ m) : t.bel m := by
  induction t with
  | leaf b => trivial
  | node v l r ihl ihr => exact ⟨by have := h.1; omega, ihl h.2.1, ihr h.2.2⟩
theorem upd_comm (c : Nat → Bool) {i j : Nat} (hij : i ≠ j) (a b : Bool) : upd (upd c i a) j b = upd (upd c j b) i a := by
  funext x
  unfold upd
  by_cases h1 : x = j
  · subst h1; simp; intro h; exact absurd h.symm hij
  · simp [h1]
theorem T.bel_of_dep {t : T} {n : Nat} (ok : t.Ok) (h : Dep n t.ev) : t.bel n := by
  induction t with
  | leaf b => trivial
  | node v l r ihl ihr =>
    have ok' := ok
    obtain ⟨h0, h1, h2, h3, h4, h5⟩ := ok
    have hv : v < n := by
      rcases Nat.lt_or_ge v n with hv | hv
      · exact hv
      · exfalso
        refine h3 (T.same h4 h5 (fun c => ?_))
        have e1 := h c v false hv
        have e2 := h c v true hv
        rw [T.ev_node _ _ _ _ _ ok'] at e1 e2
        simp at e1 e2
        rw [e1, e2]
    refine ⟨hv, ihl h4 (fun c k b hk => ?_), ihr h5 (fun c k b hk => ?_)⟩
    · have e1 := T.ev_node v l r (upd c k b) false ok'
      have e2 := T.ev_node v l r c false ok'
      rw [upd_comm c (by omega), h _ k b hk, e2] at e1
      simpa using e1.symm
    · have e1 := T.ev_node v l r (upd c k b) true ok'
      have e2 := T.ev_node v l r c true ok'
      rw [upd_comm c (by omega), h _ k b hk, e2] at e1
      simpa using e1.symm

theorem Dep.mono {n m : Nat} {f : (Nat → Bool) → Bool} (h : Dep n f) (hm : n ≤ m) : Dep m f := fun c k b hk => h c k b (by omega)
theorem Dep.and {n : Nat} {f g : (Nat → Bool) → Bool} (h : Dep n f) (k : Dep n g) : Dep n (fun x => f x && g x) := fun c i b hi => by simp only; rw [h c i b hi, k c i b hi]
theorem Dep.or {n : Nat} {f g : (Nat → Bool) → Bool} (h : Dep n f) (k : Dep n g) : Dep n (fun x => f x || g x) := fun c i b hi => by simp only; rw [h c i b hi, k c i b hi]
theorem Dep.xor {n : Nat} {f g : (Nat → Bool) → Bool} (h : Dep n f) (k : Dep n g) : Dep n (fun x => f x != g x) := fun c i b hi => by simp only; rw [h c i b hi, k c i b hi]
theorem Dep.not {n : Nat} {f : (Nat → Bool) → Bool} (h : Dep n f) : Dep n (fun x => !f x) := fun c i b hi => by simp only; rw [h c i b hi]
theorem Dep.const (n : Nat) (b : Bool) : Dep n (fun _ => b) := fun _ _ _ _ => rfl
theorem Dep.cond {n v : Nat} (hv : v < n) : Dep n (fun x => x v) := fun c i b hi => by simp only [upd]; rw [if_neg (by omega)]
theorem Dep.res {n : Nat} {f : (Nat → Bool) → Bool} (h : Dep n f) (v : Nat) (d : Bool) : Dep n (fun x => f (upd x v d)) := fun c i b hi => by
  simp only
  by_cases e : i = v
  · subst e
    rw [show upd (upd c i b) i d = upd c i d by funext x; unfold upd; split <;> rfl]
  · rw [upd_comm c e, h _ i b hi]

end Go.Proofs.Ytohmibmakelclaa

namespace Go.Proofs.Ytohmibmakelclaa
set_option linter.unusedVariables false
set_option linter.unusedSimpArgs false
open Go.RowKit

/-- A set over n conditions. -/
def MadeAs (w w' : World) (e : Ending) (n : Nat) : Prop :=
  ∃ (r : Value) (t : T), e = .returned r ∧ t.Ok ∧ t.bel n ∧ ∀ M : Nat → Prop, (∀ b, M b → b < w.heap.size) → DgAt w' M r t.canon

set_option maxRecDepth 100000 in
set_option maxHeartbeats 1000000 in
theorem table_end (w : World) (va : Value) (xs : List Int) (hx : Bytes w NoB va xs) (n k : Nat) (hn : n ≤ 6) (hk : k < 64) :
    Calls Try.prog 93 #[va, .int .i64 (n : Int), .int .i64 (n : Int), .int .i64 (k : Int)] w fun e w' => MadeAs w w' e n ∧ Below w.heap.size w w' := by
  obtain ⟨aa, ca, rfl⟩ : ∃ a c, va = .slice a xs.length c := by obtain ⟨a, c, e, -⟩ := hx; exact ⟨a, c, e⟩
  obtain ⟨w0, b0, e0, hb0, z0, h0, B0⟩ := laid w dg0 28
  have BW := Lib.hid B0; have K := Lib.hid h0; have HB0 := Lib.hid hb0
  have hk0 : (0 : Int) ≤ (k : Int) := by omega
  have hk1 : (k : Int) < 64 := by omega
  by_cases hlt : k / 8 < xs.length
  · obtain ⟨b, off, rfl, -, -, c0⟩ := Reads.get hx (j := k / 8) (u := .int .u8 xs[k / 8]) (by simp [hlt])
    have c1 := cell_below B0 c0
    have hlt' : ((k / 8 : Nat) : Int) < (xs.length : Int) := by omega
    clear h0 B0 c0
    go_enter Try.func93, Try.ntmps93
    go_wp2_with (fail)
    obtain ⟨bb, hbb⟩ : ∃ bb, (Go.bits BinOp.and IntKind.u8 (xs[k / 8] / 2 ^ (k % 8)) 1 == 1) = bb := ⟨_, rfl⟩
    rw [hbb]
    clear hbb
    refine (rconstant_any w0 bb).mono ?_
    rintro e w1 ⟨rv, rfl, hM, hb1⟩
    obtain ⟨la, lc, rfl⟩ := (hM NoB).shape
    obtain ⟨s0, s1⟩ := box2 (r := 0) (S := .slice none 0 0) (heap_below hb1 K.out)
    have sf := frozen_box (heap_below hb1 K.out)
    have K1 := Lib.hid (heap_below hb1 K.out); have HM := Lib.hid hM
    have B1 : Hid (Below w.heap.size w w1) := BW.out.trans (hb1.mono BW.out.size)
    clear hM hb1
    go_wp2_with (fail)
    obtain ⟨w8, e8, P8, Q8, S8⟩ := put2 (w0 := w) (c0 := .slice la (T.leaf bb).canon.nodes.length lc) (c1 := .int .i64 (T.leaf bb).canon.root) K1.out B1.out (by have := HB0.out; omega)
    rw [e8]
    obtain ⟨u0, u1⟩ := box2 P8
    refine bodyPost_ret (v := .agg #[.slice la (T.leaf bb).canon.nodes.length lc, .int .i64 (T.leaf bb).canon.root]) (by simp [results, Try.results93, go_sem, u0, u1]) rfl ?_
    refine ⟨⟨_, T.leaf bb, rfl, trivial, trivial, fun M hM => ?_⟩, by first | exact Q8 | (rw [← HB0.out]; exact Q8)⟩
    exact ((HM.out (fun k => M k ∨ k = b0)).step (S8.wide (fun k hk => .inr hk))).wide (fun k hk => .inl hk)
  · have hlt' : (xs.length : Int) ≤ ((k / 8 : Nat) : Int) := by omega
    clear h0 B0
    go_enter Try.func93, Try.ntmps93
    go_wp2_with (fail)
    refine (rconstant_any w0 _).mono ?_
    rintro e w1 ⟨rv, rfl, hM, hb1⟩
    obtain ⟨la, lc, rfl⟩ := (hM NoB).shape
    obtain ⟨s0, s1⟩ := box2 (r := 0) (S := .slice none 0 0) (heap_below hb1 K.out)
    have sf := frozen_box (heap_below hb1 K.out)
    have K1 := Lib.hid (heap_below hb1 K.out); have HM := Lib.hid hM
    have B1 : Hid (Below w.heap.size w w1) := BW.out.trans (hb1.mono BW.out.size)
    clear hM hb1
    go_wp2_with (fail)
    obtain ⟨w8, e8, P8, Q8, S8⟩ := put2 (w0 := w) (c0 := .slice la (T.leaf false).canon.nodes.length lc) (c1 := .int .i64 (T.leaf false).canon.root) K1.out B1.out (by have := HB0.out; omega)
    rw [e8]
    obtain ⟨u0, u1⟩ := box2 P8
    refine bodyPost_ret (v := .agg #[.slice la (T.leaf false).canon.nodes.length lc, .int .i64 (T.leaf false).canon.root]) (by simp [results, Try.results93, go_sem, u0, u1]) rfl ?_
    refine ⟨⟨_, T.leaf false, rfl, trivial, trivial, fun M hM => ?_⟩, by first | exact Q8 | (rw [← HB0.out]; exact Q8)⟩
    exact ((HM.out (fun k => M k ∨ k = b0)).step (S8.wide (fun k hk => .inr hk))).wide (fun k hk => .inl hk)

/-- The step: what a table over one condition more is. -/
def TabDoes (n v : Nat) : Prop := ∀ (w : World) (va : Value) (xs : List Int), Bytes w NoB va xs → ∀ k : Nat, k < 2 ^ v → Calls Try.prog 93 #[va, .int .i64 (n : Int), .int .i64 (v : Int), .int .i64 (k : Int)] w fun e w' => MadeAs w w' e n ∧ Below w.heap.size w w'

theorem shl_one (v : Nat) (hv : v ≤ 6) : IntKind.i64.wrap (2 ^ v) = ((2 ^ v : Nat) : Int) := by
  have : v = 0 ∨ v = 1 ∨ v = 2 ∨ v = 3 ∨ v = 4 ∨ v = 5 ∨ v = 6 := by omega
  rcases this with rfl | rfl | rfl | rfl | rfl | rfl | rfl <;> rfl

set_option maxRecDepth 100000 in
set_option maxHeartbeats 4000000 in
theorem table_step (n v : Nat) (hv : v < n) (hn : n ≤ 6) (IH : TabDoes n (v + 1)) : TabDoes n v := by
  intro w va xs hx k hk
  obtain ⟨aa, ca, rfl⟩ : ∃ a c, va = .slice a xs.length c := by obtain ⟨a, c, e, -⟩ := hx; exact ⟨a, c, e⟩
  obtain ⟨P, hP⟩ : ∃ P, 2 ^ v = P := ⟨_, rfl⟩
  have hP1 : P ≤ 32 := by rw [← hP]; exact (Nat.pow_le_pow_right (by omega) (by omega : v ≤ 5))
  have hsh := shl_one v (by omega)
  rw [hP] at hk hsh
  have hk2 : k + P < 2 ^ (v + 1) := by rw [Nat.pow_succ, hP]; omega
  have hk3 : k < 2 ^ (v + 1) := by omega
  obtain ⟨w0, b0, e0, hb0, z0, h0, B0⟩ := laid w dg0 28
  have BW := Lib.hid B0; have K := Lib.hid h0; have HB0 := Lib.hid hb0; have HX := Lib.hid hx; have HIH := Lib.hid IH; have HK2 := Lib.hid hk2; have HK3 := Lib.hid hk3; have HSH := Lib.hid hsh; have HZ0 := Lib.hid z0
  have hne : ((v : Int) == (n : Int)) = false := by simp; omega
  have hk0 : (0 : Int) ≤ (k : Int) := by omega
  have hk1 : (k : Int) < 64 := by omega
  have hv0 : (0 : Int) ≤ (v : Int) := by omega
  have hv1 : (v : Int) ≤ 5 := by omega
  have hPI : (P : Int) ≤ 32 := by omega
  have hPI0 : (0 : Int) ≤ (P : Int) := by omega
  clear h0 B0 hx IH hk2 hk3 hsh hP hk
  go_enter Try.func93, Try.ntmps93
  go_wp2_with (fail)
  refine (rvar_any w0 v (by omega)).mono ?_
  rintro e w1 ⟨rv, rfl, hM, hb1⟩
  obtain ⟨la, lc, hrv⟩ := (hM NoB (fun b h => h.elim)).shape
  have hl1 : (litT v).canon.nodes.length = 1 := by rw [canon_lit]; rfl
  have hr1 : (litT v).canon.root = 2 := by rw [canon_lit]
  rw [hl1, hr1] at hrv
  have HD1 := Lib.hid (hM NoB (fun b h => h.elim))
  have K1 := Lib.hid (heap_below hb1 K.out)
  have B1 : Hid (Below w.heap.size w w1) := BW.out.trans (hb1.mono BW.out.size)
  have Z1 : Hid (b0 + 1 ≤ w1.heap.size) := by show _ ≤ _; have := hb1.size; have := HZ0.out; omega
  obtain ⟨w2, b2, e2, hb2, z2, h2, B2⟩ := laid w1 #[.slice la 1 lc, .int .i64 2] 28
  have K2 := Lib.hid (heap_below B2 K1.out); have X2 := Lib.hid h2
  have HD2 : Hid (DgAt w2 NoB (.agg #[.slice la 1 lc, .int .i64 2]) (litT v).canon) := by rw [← hrv]; exact HD1.out.below B2
  have B12 : Hid (Below w.heap.size w w2) := B1.out.trans (B2.mono B1.out.size)
  have HX2 : Hid (Bytes w2 NoB (.slice aa xs.length ca) xs) := HX.out.step (Step.of_below B12.out NoB)
  subst hrv
  clear hM hb1 B2 h2 HD1
  go_wp2_with (with_reducible refine wpList_store_last rfl 28 (.tmp 9) (.tmp 36) rfl dg0 #[.slice la 1 lc, .int .i64 2] rfl rfl sizedg rfl (by simp [Value.oneCell']) ?_)
  have X2d : Hid (w2.drew.heap[b2]? = some (.cells #[.slice la 1 lc, .int .i64 2] 28 (0, 0))) := X2.out
  have K2d : Hid (w2.drew.heap[b0]? = some (.cells dg0 28 (0, 0))) := K2.out
  have HD2d := Lib.hid (HD2.out.below (Below.refl _ w2).drew)
  have HX2d : Hid (Bytes w2.drew NoB (.slice aa xs.length ca) xs) := HX2.out.step (Step.of_below (Below.refl _ w2).drew NoB)
  have B2d : Hid (Below w.heap.size w w2.drew) := B12.out.drew
  refine wp_region_held_drew (S := fun w' => w'.cell? ⟨b2, 0, none⟩ = some (.slice la 1 lc) ∧ w'.cell? ⟨b2, 1, none⟩ = some (.int .i64 2)) (by kernel_rfl) (box2 X2d.out) (fun hS => ?_)
  refine wpAnyH_take (i := 0) (v := (.agg #[.slice la 1 lc, .int .i64 2])) rfl (by kernel_rfl) (by kernel_rfl) (by kernel_rfl) (fun _ _ _ h => h) (Or.inl ⟨by rfl, ?_⟩) hS ?_
  · intro w hSw
    go_split_ands
    go_simp
  try simp only [Act.put, List.getElem_toArray, List.getElem_cons_zero, List.getElem_cons_succ, List.setIfInBounds_toArray, List.set_cons_zero, List.set_cons_succ]
  refine wpAnyH_take (i := 1) (v := (.slice aa xs.length ca)) rfl (by kernel_rfl) (by kernel_rfl) (by kernel_rfl) (fun _ _ _ h => h) (Or.inl ⟨by rfl, ?_⟩) hS ?_
  · intro w hSw
    go_split_ands
    go_simp
  try simp only [Act.put, List.getElem_toArray, List.getElem_cons_zero, List.getElem_cons_succ, List.setIfInBounds_toArray, List.set_cons_zero, List.set_cons_succ]
  refine wpAnyH_take (i := 2) (v := .int .i64 (n : Int)) rfl (by kernel_rfl) (by kernel_rfl) (by kernel_rfl) (fun _ _ _ h => h) (Or.inl ⟨by rfl, ?_⟩) hS ?_
  · intro w hSw
    go_split_ands
    go_simp
  try simp only [Act.put, List.getElem_toArray, List.getElem_cons_zero, List.getElem_cons_succ, List.setIfInBounds_toArray, List.set_cons_zero, List.set_cons_succ]
  refine wpAnyH_take (i := 3) (v := .int .i64 (v : Int)) rfl (by kernel_rfl) (by kernel_rfl) (by kernel_rfl) (fun _ _ _ h => h) (Or.inl ⟨by rfl, ?_⟩) hS ?_
  · intro w hSw
    go_split_ands
    go_simp
  try simp only [Act.put, List.getElem_toArray, List.getElem_cons_zero, List.getElem_cons_succ, List.setIfInBounds_toArray, List.set_cons_zero, List.set_cons_succ]
  refine wpAnyH_take (i := 4) (v := .int .i64 ((v : Int) + 1)) rfl (by kernel_rfl) (by kernel_rfl) (by kernel_rfl) (fun _ _ _ h => h) (Or.inl ⟨by rfl, ?_⟩) hS ?_
  · intro w hSw
    go_split_ands
    go_simp
    exact IntWalk.i64_in _ ⟨by omega, by omega⟩
  try simp only [Act.put, List.getElem_toArray, List.getElem_cons_zero, List.getElem_cons_succ, List.setIfInBounds_toArray, List.set_cons_zero, List.set_cons_succ]
  refine wpAnyH_take (i := 5) (v := .int .i64 (k : Int)) rfl (by kernel_rfl) (by kernel_rfl) (by kernel_rfl) (fun _ _ _ h => h) (Or.inl ⟨by rfl, ?_⟩) hS ?_
  · intro w hSw
    go_split_ands
    go_simp
  try simp only [Act.put, List.getElem_toArray, List.getElem_cons_zero, List.getElem_cons_succ, List.setIfInBounds_toArray, List.set_cons_zero, List.set_cons_succ]
  refine wpAnyH_take (i := 6) (v := .int .i64 (v : Int)) rfl (by kernel_rfl) (by kernel_rfl) (by kernel_rfl) (fun _ _ _ h => h) (Or.inl ⟨by rfl, ?_⟩) hS ?_
  · intro w hSw
    go_split_ands
    go_simp
  try simp only [Act.put, List.getElem_toArray, List.getElem_cons_zero, List.getElem_cons_succ, List.setIfInBounds_toArray, List.set_cons_zero, List.set_cons_succ]
  refine wpAnyH_take (i := 7) (v := .int .u64 (v : Int)) rfl (by kernel_rfl) (by kernel_rfl) (by kernel_rfl) (fun _ _ _ h => h) (Or.inl ⟨by rfl, ?_⟩) hS ?_
  · intro w hSw
    go_split_ands
    go_simp
    exact IntWalk.u64_in _ ⟨by omega, by omega⟩
  try simp only [Act.put, List.getElem_toArray, List.getElem_cons_zero, List.getElem_cons_succ, List.setIfInBounds_toArray, List.set_cons_zero, List.set_cons_succ]
  refine wpAnyH_take (i := 8) (v := .int .i64 (P : Int)) rfl (by kernel_rfl) (by kernel_rfl) (by kernel_rfl) (fun _ _ _ h => h) (Or.inl ⟨by rfl, ?_⟩) hS ?_
  · intro w hSw
    go_split_ands
    go_simp
    exact HSH.out
  try simp only [Act.put, List.getElem_toArray, List.getElem_cons_zero, List.getElem_cons_succ, List.setIfInBounds_toArray, List.set_cons_zero, List.set_cons_succ]
  refine wpAnyH_take (i := 9) (v := .int .i64 ((k : Int) + (P : Int))) rfl (by kernel_rfl) (by kernel_rfl) (by kernel_rfl) (fun _ _ _ h => h) (Or.inl ⟨by rfl, ?_⟩) hS ?_
  · intro w hSw
    go_split_ands
    go_simp
    exact IntWalk.i64_in _ ⟨by omega, by omega⟩
  try simp only [Act.put, List.getElem_toArray, List.getElem_cons_zero, List.getElem_cons_succ, List.setIfInBounds_toArray, List.set_cons_zero, List.set_cons_succ]
  refine wpAnyH_take (i := 12) (v := (.slice aa xs.length ca)) rfl (by kernel_rfl) (by kernel_rfl) (by kernel_rfl) (fun _ _ _ h => h) (Or.inl ⟨by rfl, ?_⟩) hS ?_
  · intro w hSw
    go_split_ands
    go_simp
  try simp only [Act.put, List.getElem_toArray, List.getElem_cons_zero, List.getElem_cons_succ, List.setIfInBounds_toArray, List.set_cons_zero, List.set_cons_succ]
  refine wpAnyH_take (i := 13) (v := .int .i64 (n : Int)) rfl (by kernel_rfl) (by kernel_rfl) (by kernel_rfl) (fun _ _ _ h => h) (Or.inl ⟨by rfl, ?_⟩) hS ?_
  · intro w hSw
    go_split_ands
    go_simp
  try simp only [Act.put, List.getElem_toArray, List.getElem_cons_zero, List.getElem_cons_succ, List.setIfInBounds_toArray, List.set_cons_zero, List.set_cons_succ]
  refine wpAnyH_take (i := 14) (v := .int .i64 (v : Int)) rfl (by kernel_rfl) (by kernel_rfl) (by kernel_rfl) (fun _ _ _ h => h) (Or.inl ⟨by rfl, ?_⟩) hS ?_
  · intro w hSw
    go_split_ands
    go_simp
  try simp only [Act.put, List.getElem_toArray, List.getElem_cons_zero, List.getElem_cons_succ, List.setIfInBounds_toArray, List.set_cons_zero, List.set_cons_succ]
  refine wpAnyH_take (i := 15) (v := .int .i64 ((v : Int) + 1)) rfl (by kernel_rfl) (by kernel_rfl) (by kernel_rfl) (fun _ _ _ h => h) (Or.inl ⟨by rfl, ?_⟩) hS ?_
  · intro w hSw
    go_split_ands
    go_simp
    exact IntWalk.i64_in _ ⟨by omega, by omega⟩
  try simp only [Act.put, List.getElem_toArray, List.getElem_cons_zero, List.getElem_cons_succ, List.setIfInBounds_toArray, List.set_cons_zero, List.set_cons_succ]
  refine wpAnyH_take (i := 16) (v := .int .i64 (k : Int)) rfl (by kernel_rfl) (by kernel_rfl) (by kernel_rfl) (fun _ _ _ h => h) (Or.inl ⟨by rfl, ?_⟩) hS ?_
  · intro w hSw
    go_split_ands
    go_simp
  try simp only [Act.put, List.getElem_toArray, List.getElem_cons_zero, List.getElem_cons_succ, List.setIfInBounds_toArray, List.set_cons_zero, List.set_cons_succ]
  refine wpAnyH_take (i := 18) (v := (.agg #[.slice la 1 lc, .int .i64 2])) rfl (by kernel_rfl) (by kernel_rfl) (by kernel_rfl) (fun _ _ _ h => h) (Or.inl ⟨by rfl, ?_⟩) hS ?_
  · intro w hSw
    go_split_ands
    go_simp
  try simp only [Act.put, List.getElem_toArray, List.getElem_cons_zero, List.getElem_cons_succ, List.setIfInBounds_toArray, List.set_cons_zero, List.set_cons_succ]
  refine wpAnyH_ready (rs := [10]) (by kernel_rfl) (by simp) ?_
  refine AllReadyH.cons rfl (fun K hK => ?_) AllReadyH.nil
  try simp only [Act.put, List.getElem_toArray, List.getElem_cons_zero, List.getElem_cons_succ, List.setIfInBounds_toArray, List.set_cons_zero, List.set_cons_succ]
  go_simp
  have T3 := HIH.out w2.drew _ xs HX2d.out (k + P) HK2.out
  rw [show (((v + 1 : Nat)) : Int) = (v : Int) + 1 by omega, show ((k + P : Nat) : Int) = (k : Int) + (P : Int) by omega] at T3
  have HT3 := Lib.hid T3
  clear T3
  refine HT3.out.mono ?_
  rintro e w3 ⟨⟨r3, t3, rfl, ok3, bl3, hM3⟩, hb3⟩
  obtain ⟨a3, c3, rfl⟩ := (hM3 NoB (fun b h => h.elim)).shape
  have HD3 : Hid (DgAt w3 NoB (.agg #[.slice a3 t3.canon.nodes.length c3, .int .i64 t3.canon.root]) t3.canon) := hM3 NoB (fun b h => h.elim)
  have X3 := Lib.hid (heap_below hb3 X2d.out); have K3 := Lib.hid (heap_below hb3 K2d.out)
  have B3 : Hid (Below w.heap.size w w3) := B2d.out.trans (hb3.mono B2d.out.size)
  have HX3 : Hid (Bytes w3 NoB (.slice aa xs.length ca) xs) := HX.out.step (Step.of_below B3.out NoB)
  have HL3 : Hid (DgAt w3 NoB (.agg #[.slice la 1 lc, .int .i64 2]) (litT v).canon) := HD2d.out.below hb3
  have HOK3 := Lib.hid ok3; have HBL3 := Lib.hid bl3; have HSM3 := Lib.hid (ok3.small bl3 hn)
  clear hM3 hb3 ok3 bl3 HT3
  refine hK.out _ _ (box2 X3.out) (fun hS => ?_)
  clear hK K
  try simp only [Act.put, List.getElem_toArray, List.getElem_cons_zero, List.getElem_cons_succ, List.setIfInBounds_toArray, List.set_cons_zero, List.set_cons_succ]
  refine wpAnyH_ready (rs := [11]) (by kernel_rfl) (by simp) ?_
  refine AllReadyH.cons rfl (fun K hK => ?_) AllReadyH.nil
  try simp only [Act.put, List.getElem_toArray, List.getElem_cons_zero, List.getElem_cons_succ, List.setIfInBounds_toArray, List.set_cons_zero, List.set_cons_succ]
  go_simp
  have C4 := rinter_any w3 _ _ (litT v).canon t3.canon HL3.out HD3.out (litT_ok (by omega)).valid HOK3.out.valid (by
    rw [show (litT v).canon.nodes.length = 1 by rw [canon_lit]; rfl]; have := HSM3.out; omega)
  have HC4 := Lib.hid C4
  clear C4
  refine HC4.out.mono ?_
  rintro e w4 ⟨⟨r4, t4, rfl, ok4, ev4, -, hM4⟩, hb4⟩
  obtain ⟨a4, c4, rfl⟩ := (hM4 NoB (fun b h => h.elim)).shape
  have HD4 : Hid (DgAt w4 NoB (.agg #[.slice a4 t4.canon.nodes.length c4, .int .i64 t4.canon.root]) t4.canon) := hM4 NoB (fun b h => h.elim)
  have X4 := Lib.hid (heap_below hb4 X3.out); have K4 := Lib.hid (heap_below hb4 K3.out)
  have B4 : Hid (Below w.heap.size w w4) := B3.out.trans (hb4.mono B3.out.size)
  have HX4 : Hid (Bytes w4 NoB (.slice aa xs.length ca) xs) := HX.out.step (Step.of_below B4.out NoB)
  have HL4 : Hid (DgAt w4 NoB (.agg #[.slice la 1 lc, .int .i64 2]) (litT v).canon) := HL3.out.below hb4
  have bl4 : t4.bel n := T.bel_of_dep ok4 (by
    rw [show t4.ev = _ from funext ev4, T.canon_tree (litT_ok (by omega)), T.canon_tree HOK3.out]
    exact (T.dep (t := litT v) (n := n) ⟨hv, trivial, trivial⟩).and (T.dep HBL3.out))
  have HOK4 := Lib.hid ok4; have HBL4 := Lib.hid bl4; have HSM4 := Lib.hid (ok4.small bl4 hn)
  clear hM4 hb4 ok4 ev4 bl4 HC4
  refine hK.out _ _ (box2 X4.out) (fun hS => ?_)
  clear hK K
  try simp only [Act.put, List.getElem_toArray, List.getElem_cons_zero, List.getElem_cons_succ, List.setIfInBounds_toArray, List.set_cons_zero, List.set_cons_succ]
  refine wpAnyH_ready (rs := [17]) (by kernel_rfl) (by simp) ?_
  refine AllReadyH.cons rfl (fun K hK => ?_) AllReadyH.nil
  try simp only [Act.put, List.getElem_toArray, List.getElem_cons_zero, List.getElem_cons_succ, List.setIfInBounds_toArray, List.set_cons_zero, List.set_cons_succ]
  go_simp
  have T5 := HIH.out w4 _ xs HX4.out k HK3.out
  rw [show (((v + 1 : Nat)) : Int) = (v : Int) + 1 by omega] at T5
  have HT5 := Lib.hid T5
  clear T5
  refine HT5.out.mono ?_
  rintro e w5 ⟨⟨r5, t5, rfl, ok5, bl5, hM5⟩, hb5⟩
  obtain ⟨a5, c5, rfl⟩ := (hM5 NoB (fun b h => h.elim)).shape
  have HD5 : Hid (DgAt w5 NoB (.agg #[.slice a5 t5.canon.nodes.length c5, .int .i64 t5.canon.root]) t5.canon) := hM5 NoB (fun b h => h.elim)
  have X5 := Lib.hid (heap_below hb5 X4.out); have K5 := Lib.hid (heap_below hb5 K4.out)
  have B5 : Hid (Below w.heap.size w w5) := B4.out.trans (hb5.mono B4.out.size)
  have HL5 : Hid (DgAt w5 NoB (.agg #[.slice la 1 lc, .int .i64 2]) (litT v).canon) := HL4.out.below hb5
  have HD45 := Lib.hid (HD4.out.below hb5)
  have HOK5 := Lib.hid ok5; have HBL5 := Lib.hid bl5; have HSM5 := Lib.hid (ok5.small bl5 hn)
  clear hM5 hb5 ok5 bl5 HT5
  refine hK.out _ _ (box2 X5.out) (fun hS => ?_)
  clear hK K
  try simp only [Act.put, List.getElem_toArray, List.getElem_cons_zero, List.getElem_cons_succ, List.setIfInBounds_toArray, List.set_cons_zero, List.set_cons_succ]
  refine wpAnyH_ready (rs := [19]) (by kernel_rfl) (by simp) ?_
  refine AllReadyH.cons rfl (fun K hK => ?_) AllReadyH.nil
  try simp only [Act.put, List.getElem_toArray, List.getElem_cons_zero, List.getElem_cons_succ, List.setIfInBounds_toArray, List.set_cons_zero, List.set_cons_succ]
  go_simp
  have C6 := rminus_any w5 _ _ t5.canon (litT v).canon HD5.out HL5.out HOK5.out.valid (litT_ok (by omega)).valid (by
    rw [show (litT v).canon.nodes.length = 1 by rw [canon_lit]; rfl]; have := HSM5.out; omega) (by
    rw [show (litT v).canon.nodes.length = 1 by rw [canon_lit]; rfl]; omega)
  have HC6 := Lib.hid C6
  clear C6
  refine HC6.out.mono ?_
  rintro e w6 ⟨⟨r6, t6, rfl, ok6, ev6, -, hM6⟩, hb6⟩
  obtain ⟨a6, c6, rfl⟩ := (hM6 NoB (fun b h => h.elim)).shape
  have HD6 : Hid (DgAt w6 NoB (.agg #[.slice a6 t6.canon.nodes.length c6, .int .i64 t6.canon.root]) t6.canon) := hM6 NoB (fun b h => h.elim)
  have X6 := Lib.hid (heap_below hb6 X5.out); have K6 := Lib.hid (heap_below hb6 K5.out)
  have B6 : Hid (Below w.heap.size w w6) := B5.out.trans (hb6.mono B5.out.size)
  have HD46 := Lib.hid (HD45.out.below hb6)
  have bl6 : t6.bel n := T.bel_of_dep ok6 (by
    rw [show t6.ev = _ from funext ev6, T.canon_tree (litT_ok (by omega)), T.canon_tree HOK5.out]
    exact (T.dep HBL5.out).and ((T.dep (t := litT v) (n := n) ⟨hv, trivial, trivial⟩).not))
  have HOK6 := Lib.hid ok6; have HBL6 := Lib.hid bl6; have HSM6 := Lib.hid (ok6.small bl6 hn)
  clear hM6 hb6 ok6 ev6 bl6 HC6
  refine hK.out _ _ (box2 X6.out) (fun hS => ?_)
  clear hK K
  try simp only [Act.put, List.getElem_toArray, List.getElem_cons_zero, List.getElem_cons_succ, List.setIfInBounds_toArray, List.set_cons_zero, List.set_cons_succ]
  refine wpAnyH_ready (rs := [20]) (by kernel_rfl) (by simp) ?_
  refine AllReadyH.cons rfl (fun K hK => ?_) AllReadyH.nil
  try simp only [Act.put, List.getElem_toArray, List.getElem_cons_zero, List.getElem_cons_succ, List.setIfInBounds_toArray, List.set_cons_zero, List.set_cons_succ]
  go_simp
  have C7 := runion_any w6 _ _ t4.canon t6.canon HD46.out HD6.out HOK4.out.valid HOK6.out.valid (by
    have h1 := HSM4.out; have h2 := HSM6.out
    exact Nat.le_trans (Nat.mul_le_mul (Nat.add_le_add_right h1 2) (Nat.add_le_add_right h2 2)) (by decide))
  have HC7 := Lib.hid C7
  clear C7
  refine HC7.out.mono ?_
  rintro e w7 ⟨⟨r7, t7, rfl, ok7, ev7, -, hM7⟩, hb7⟩
  obtain ⟨a7, c7, rfl⟩ := (hM7 NoB (fun b h => h.elim)).shape
  have X7 := Lib.hid (heap_below hb7 X6.out); have K7 := Lib.hid (heap_below hb7 K6.out)
  have B7 : Hid (Below w.heap.size w w7) := B6.out.trans (hb7.mono B6.out.size)
  have bl7 : t7.bel n := T.bel_of_dep ok7 (by
    rw [show t7.ev = _ from funext ev7, T.canon_tree HOK4.out, T.canon_tree HOK6.out]
    exact (T.dep HBL4.out).or (T.dep HBL6.out))
  have HOK7 := Lib.hid ok7; have HBL7 := Lib.hid bl7; have HM7 := Lib.hid hM7
  clear hM7 hb7 ok7 ev7 bl7 HC7
  refine hK.out _ _ (box2 X7.out) (fun hS => ?_)
  clear hK K
  try simp only [Act.put, List.getElem_toArray, List.getElem_cons_zero, List.getElem_cons_succ, List.setIfInBounds_toArray, List.set_cons_zero, List.set_cons_succ]
  obtain ⟨s0, s1⟩ := box2 (r := 0) (S := .slice none 0 0) K7.out
  have sf := frozen_box K7.out
  have hne2 : b2 ≠ b0 := by have := Z1.out; omega
  obtain ⟨w8, e8, P8, Q8, S8⟩ := put2 (w0 := w) (c0 := .slice a7 t7.canon.nodes.length c7) (c1 := .int .i64 t7.canon.root) K7.out B7.out (by have := HB0.out; omega)
  have X8 : Hid (w8.heap[b2]? = some (.cells #[.slice la 1 lc, .int .i64 2] 28 (0, 0))) := (S8.block b2 (by have := X7.out; rw [Array.getElem?_eq_some_iff] at this; exact this.1) hne2).trans X7.out
  have HP8 := Lib.hid P8; have HQ8 := Lib.hid Q8; have HS8 := Lib.hid S8
  clear P8 Q8 S8
  refine wpAnyH_ready (rs := [21]) (by kernel_rfl) (by simp) ?_
  refine AllReadyH.cons rfl (fun K hK => ?_) AllReadyH.nil
  try simp only [Act.put, List.getElem_toArray, List.getElem_cons_zero, List.getElem_cons_succ, List.setIfInBounds_toArray, List.set_cons_zero, List.set_cons_succ]
  go_simp
  refine hK.out _ _ (box2 X8.out) (fun hS => ?_)
  clear hK K
  try simp only [Act.put, List.getElem_toArray, List.getElem_cons_zero, List.getElem_cons_succ, List.setIfInBounds_toArray, List.set_cons_zero, List.set_cons_succ]
  refine wpAnyH_done (by kernel_rfl) ?_ _
  try simp only [Act.put, List.getElem_toArray, List.getElem_cons_zero, List.getElem_cons_succ, List.setIfInBounds_toArray, List.set_cons_zero, List.set_cons_succ]
  clear hS e8 s0 s1 sf
  obtain ⟨u0, u1⟩ := box2 HP8.out
  go_wp2_with (fail)
  refine bodyPost_ret (v := .agg #[.slice a7 t7.canon.nodes.length c7, .int .i64 t7.canon.root]) (by simp [results, Try.results93, go_sem, u0, u1]) rfl ?_
  refine ⟨⟨_, t7, rfl, HOK7.out, HBL7.out, fun M hM => ?_⟩, by first | exact HQ8.out | (rw [← HB0.out]; exact HQ8.out)⟩
  have h1 := HM7.out (fun k => M k ∨ k = b0) (fun b hb => by
    rcases hb with hb | hb
    · have := hM b hb; have := B6.out.size; omega
    · have := K6.out; rw [Array.getElem?_eq_some_iff] at this; rw [hb]; exact this.1)
  exact (h1.step (HS8.out.wide (fun k hk => .inr hk))).wide (fun k hk => .inl hk)

theorem table_any (n : Nat) (hn : n ≤ 6) : ∀ (m v : Nat), v + m = n → TabDoes n v := by
  intro m
  induction m with
  | zero =>
    intro v hv w va xs hx k hk
    obtain rfl : v = n := by omega
    exact table_end w va xs hx v k hn (Nat.lt_of_lt_of_le hk (Nat.pow_le_pow_right (by omega) hn : 2 ^ v ≤ 2 ^ 6))
  | succ m ih =>
    intro v hv
    exact table_step n v (by omega) hn (ih (v + 1) (by omega))

set_option maxRecDepth 100000 in
set_option maxHeartbeats 1000000 in
theorem made_any (w : World) (va : Value) (xs : List Int) (hx : Bytes w NoB va xs) (n : Nat) (hn : n ≤ 6) :
    Calls Try.prog 59 #[va, .int .i64 (n : Int)] w fun e w' => MadeAs w w' e n ∧ Below w.heap.size w w' := by
  obtain ⟨aa, ca, rfl⟩ : ∃ a c, va = .slice a xs.length c := by obtain ⟨a, c, e, -⟩ := hx; exact ⟨a, c, e⟩
  obtain ⟨w0, b0, e0, hb0, z0, h0, B0⟩ := laid w dg0 28
  have BW := Lib.hid B0; have K := Lib.hid h0; have HB0 := Lib.hid hb0
  have T := table_any n hn n 0 (by omega) w0 _ xs (hx.step (Step.of_below B0 NoB)) 0 (by simp)
  rw [show ((0 : Nat) : Int) = 0 from rfl] at T
  have HT := Lib.hid T
  have h3 : (n : Int) ≤ 6 := by omega
  clear h0 B0 hx T
  have FIN : Hid (∀ (e : Ending) (w1 : World), MadeAs w0 w1 e n → Below w0.heap.size w0 w1 → ∃ (a : Option Addr) (m c : Nat) (r : Int), e = .returned (.agg #[.slice a m c, .int .i64 r]) ∧ ∃ w8, (w1.setCell ⟨b0, 0, none⟩ (.slice a m c)).setCell ⟨b0, 1, none⟩ (.int .i64 r) = w8 ∧ w8.heap[b0]? = some (.cells #[.slice a m c, .int .i64 r] 28 (0, 0)) ∧ MadeAs w w8 (.returned (.agg #[.slice a m c, .int .i64 r])) n ∧ Below w.heap.size w w8 ∧ w1.cell? ⟨b0, 0, none⟩ = some (.slice none 0 0) ∧ w1.cell? ⟨b0, 1, none⟩ = some (.int .i64 0) ∧ ∀ i, w1.frozen? ⟨b0, i, none⟩ = false) := by
    rintro e w1 ⟨r, t, rfl, ok, bl, hM⟩ hb1
    obtain ⟨a, c, rfl⟩ := (hM NoB (fun b h => h.elim)).shape
    have K1 := heap_below hb1 K.out
    have B1 := BW.out.trans (hb1.mono BW.out.size)
    obtain ⟨w8, e8, P8, Q8, S8⟩ := put2 (w0 := w) (c0 := .slice a t.canon.nodes.length c) (c1 := .int .i64 t.canon.root) K1 B1 (by have := HB0.out; omega)
    obtain ⟨s0, s1⟩ := box2 (r := 0) (S := .slice none 0 0) K1
    refine ⟨a, _, c, _, rfl, w8, e8, P8, ⟨_, t, rfl, ok, bl, fun M hM' => ?_⟩, Q8, s0, s1, frozen_box K1⟩
    have h1 := hM (fun k => M k ∨ k = b0) (fun b hb => by
      rcases hb with hb | hb
      · have := hM' b hb; have := BW.out.size; omega
      · have := K.out; rw [Array.getElem?_eq_some_iff] at this; rw [hb]; exact this.1)
    exact (h1.step (S8.wide (fun k hk => .inr hk))).wide (fun k hk => .inl hk)
  rcases Nat.eq_zero_or_pos n with rfl | hpos
  all_goals
    try have h4 : (0 : Int) < (n : Int) := by omega
    go_enter Try.func59, Try.ntmps59
    go_wp2_with (fail)
    refine HT.out.mono ?_
    rintro e w1 ⟨hT, hb1⟩
    obtain ⟨a, m, c, r, rfl, w8, e8, P8, hM8, Q8, s0, s1, sf⟩ := FIN.out e w1 hT hb1
    have HP8 := Lib.hid P8; have HM8 := Lib.hid hM8; have HQ8 := Lib.hid Q8
    clear hT hb1 P8 hM8 Q8
    go_wp2_with (fail)
    obtain ⟨u0, u1⟩ := box2 HP8.out
    refine bodyPost_ret (v := .agg #[.slice a m c, .int .i64 r]) (by simp [results, Try.results59, go_sem, u0, u1]) rfl ?_
    exact ⟨HM8.out, by first | exact HQ8.out | (rw [← HB0.out]; exact HQ8.out)⟩

end Go.Proofs.Ytohmibmakelclaa
