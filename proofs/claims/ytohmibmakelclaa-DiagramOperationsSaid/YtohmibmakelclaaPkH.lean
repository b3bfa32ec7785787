/-
  The walk that combines three diagrams, at any place.
  Condition: diagrams of at most 4096 branches.
-/
import Derived.Test.YtohmibmakelclaaPkF
import Derived.Test.YtohmibmakelclaaPkG
import Derived.Test.YtohmibmakelclaaPkB
import Derived.Laws.EntriesVeiled
import Derived.Test.YtohmibmakelclaaPkC
namespace Go.Proofs.Ytohmibmakelclaa
set_option linter.unusedVariables false
set_option linter.unusedSimpArgs false
open Go.RowKit

/-- The numbers to which a number leads by a condition, and their trees. -/
theorem Wf.sides {ns : List Br} (hw : Wf ns) {n : Nat} (hn : n < ns.length + 2) (v : Nat) (hv : v < 64) :
    ∃ l h : Nat, sides ns (n : Int) (v : Int) = ((l : Int), (h : Int)) ∧ l ≤ n ∧ h ≤ n ∧ tr ns l = (tr ns n).side v false ∧ tr ns h = (tr ns n).side v true ∧ ((tr ns n).lv = v → l < n ∧ h < n) := by
  obtain ⟨hok, hl, h3⟩ := hw.stands hn
  by_cases h2 : 2 ≤ n
  · obtain ⟨b, hb, e, l1, l2, p1, p2, p3, p4, p5, p6, p7⟩ := h3 h2
    have hl' : level ns (n : Int) = (b.v.toNat : Int) := by rw [← hl, e]; rfl
    by_cases hv' : b.v.toNat = v
    · refine ⟨b.l.toNat, b.h.toNat, ?_, by omega, by omega, ?_, ?_, fun _ => ⟨l1, l2⟩⟩
      · unfold Go.Proofs.Ytohmibmakelclaa.sides
        rw [if_pos (by rw [hl']; omega), List.getD_eq_getElem?_getD, show ((n : Int) - 2).toNat = n - 2 by omega, hb]
        simp only [Option.getD_some]
        rw [Int.toNat_of_nonneg p1, Int.toNat_of_nonneg p2]
      · rw [e]; simp only [T.side]; rw [if_pos hv']; rfl
      · rw [e]; simp only [T.side]; rw [if_pos hv']; rfl
    · refine ⟨n, n, ?_, Nat.le_refl _, Nat.le_refl _, ?_, ?_, ?_⟩
      · unfold Go.Proofs.Ytohmibmakelclaa.sides
        rw [if_neg (by rw [hl']; omega)]
      · rw [e]; simp only [T.side]; rw [if_neg hv']
      · rw [e]; simp only [T.side]; rw [if_neg hv']
      · rw [e]; intro h; exact absurd h hv'
  · have hcase : n = 0 ∨ n = 1 := by omega
    have hlv : (tr ns n).lv = 64 := by
      rcases hcase with rfl | rfl
      · rw [tr_zero]; rfl
      · rw [tr_one]; rfl
    refine ⟨n, n, ?_, Nat.le_refl _, Nat.le_refl _, ?_, ?_, fun h => by omega⟩
    · unfold Go.Proofs.Ytohmibmakelclaa.sides
      rw [if_neg (by rw [← hl, hlv]; omega)]
    · rcases hcase with rfl | rfl
      · rw [tr_zero]; rfl
      · rw [tr_one]; rfl
    · rcases hcase with rfl | rfl
      · rw [tr_zero]; rfl
      · rw [tr_one]; rfl

theorem Wf.lv_lt {ns : List Br} (hw : Wf ns) {n : Nat} (hn : n < ns.length + 2) (h2 : 2 ≤ n) : (tr ns n).lv < 64 := by
  obtain ⟨hok, hl, h3⟩ := hw.stands hn
  obtain ⟨b, hb, e, l1, l2, p1, p2, p3, p4, p5, p6, p7⟩ := h3 h2
  rw [e]; simp only [T.lv]; omega

section
variable {w0 : World} {B : Nat} {fo : FuncId} {caps : Array Value} {op : Bool → Bool → Bool → Bool} {D0 D1 D2 : Dg} {S0 S1 S2 : Value} {po pm pl pa pb mb mk bb : Nat}

theorem at_any (hop : OpDoes w0 B fo caps op) (hw0 : Wf D0.nodes) (hw1 : Wf D1.nodes) (hw2 : Wf D2.nodes) (hn0 : D0.nodes.length ≤ 4096) (hn1 : D1.nodes.length ≤ 4096) (hn2 : D2.nodes.length ≤ 4096) :
    ∀ k a b c : Nat, a + b + c ≤ k → a < D0.nodes.length + 2 → b < D1.nodes.length + 2 → c < D2.nodes.length + 2 → AtDoes w0 B fo caps op D0 D1 D2 S0 S1 S2 po pm pl pa pb mb mk bb a b c := by
  intro k
  induction k with
  | zero =>
    intro a b c hk ha hb hc
    obtain rfl : a = 0 := by omega
    obtain rfl : b = 0 := by omega
    obtain rfl : c = 0 := by omega
    exact at_const hop false false false
  | succ k ih =>
    intro a b c hk ha hb hc
    by_cases hab : a < 2 ∧ b < 2 ∧ c < 2
    · obtain ⟨x, rfl⟩ := bit_of hab.1
      obtain ⟨y, rfl⟩ := bit_of hab.2.1
      obtain ⟨z, rfl⟩ := bit_of hab.2.2
      exact at_const hop x y z
    · intro w ns S ms h hsn
      cases hm : memF ms ((a : Int), (b : Int), (c : Int)) with
      | some r =>
        refine (at_known a b c hab (by omega) (by omega) (by omega) h r hm).mono ?_
        rintro e w' ⟨rfl, hb'⟩
        obtain ⟨a', b', c', r', e, h1, h2, h3, h4, h5⟩ := h.ok _ (memF_some hm)
        simp only [Prod.mk.injEq] at e
        obtain ⟨⟨ea, eb, ec⟩, er⟩ := e
        obtain rfl : a = a' := by omega
        obtain rfl : b = b' := by omega
        obtain rfl : c = c' := by omega
        subst er
        exact ⟨r', [], S, [], rfl, by simpa using h.below hb', Step.of_below hb' _, by simpa using h4, by simpa using h5, by simp, by simpa using hsn⟩
      | none =>
        obtain ⟨v, hv⟩ : ∃ v, min (min (tr D0.nodes a).lv (tr D1.nodes b).lv) (tr D2.nodes c).lv = v := ⟨_, rfl⟩
        have q0 := (hw0.stands ha).1
        have q1 := (hw1.stands hb).1
        have q2 := (hw2.stands hc).1
        have hv64 : v < 64 := by
          have : 2 ≤ a ∨ 2 ≤ b ∨ 2 ≤ c := by omega
          rcases this with h | h | h
          · have := hw0.lv_lt ha h; omega
          · have := hw1.lv_lt hb h; omega
          · have := hw2.lv_lt hc h; omega
        obtain ⟨a0, a1, ea, la0, la1, ta0, ta1, da⟩ := hw0.sides ha v hv64
        obtain ⟨b0, b1, eb, lb0, lb1, tb0, tb1, db⟩ := hw1.sides hb v hv64
        obtain ⟨c0, c1, ec, lc0, lc1, tc0, tc1, dc⟩ := hw2.sides hc v hv64
        have hdec : a0 + b0 + c0 < a + b + c ∧ a1 + b1 + c1 < a + b + c := by
          have : (tr D0.nodes a).lv = v ∨ (tr D1.nodes b).lv = v ∨ (tr D2.nodes c).lv = v := by omega
          rcases this with h | h | h
          · have := da h; omega
          · have := db h; omega
          · have := dc h; omega
        have L := ih a0 b0 c0 (by omega) (by omega) (by omega) (by omega)
        have H := ih a1 b1 c1 (by omega) (by omega) (by omega) (by omega)
        have hG : ∀ (ns : List Br) (l h : Nat), Wf ns → l < ns.length + 2 → h < ns.length + 2 → Good op (tr D0.nodes a0) (tr D1.nodes b0) (tr D2.nodes c0) (tr ns l) → Good op (tr D0.nodes a1) (tr D1.nodes b1) (tr D2.nodes c1) (tr ns h) → (v < (tr ns l).lv ∧ v < (tr ns h).lv) ∧ Good op (tr D0.nodes a) (tr D1.nodes b) (tr D2.nodes c) (if l = h then tr ns l else .node v (tr ns l) (tr ns h)) := by
          intro ns l h hw hl hh g0 g1
          rw [ta0, tb0, tc0] at g0
          rw [ta1, tb1, tc1] at g1
          obtain ⟨r1, r2⟩ := Good.step q0 q1 q2 v (by omega) hv64 g0 g1
          refine ⟨r1, ?_⟩
          by_cases e : l = h
          · subst e
            rw [if_pos rfl] at r2 ⊢
            exact r2
          · rw [if_neg (fun he => e (hw.inj hl hh he))] at r2
            rw [if_neg e]
            exact r2
        have hV : min (min (level D0.nodes (a : Int)) (level D1.nodes (b : Int))) (level D2.nodes (c : Int)) = (v : Int) := by
          rw [hw0.lv ha, hw1.lv hb, hw2.lv hc]; omega
        by_cases h2 : 2 ≤ a
        · exact at_newA a b c a0 b0 c0 a1 b1 c1 _ _ _ v (by omega) hw0 hw1 hw2 ha hb hc hn0 hn1 hn2 rfl rfl rfl hV hv64 ea eb ec hdec.1 hdec.2 L H hG h hsn hm
        by_cases h3 : 2 ≤ b
        · exact at_newB a b c a0 b0 c0 a1 b1 c1 _ _ _ v (by omega) (by omega) hw0 hw1 hw2 ha hb hc hn0 hn1 hn2 rfl rfl rfl hV hv64 ea eb ec hdec.1 hdec.2 L H hG h hsn hm
        · exact at_newC a b c a0 b0 c0 a1 b1 c1 _ _ _ v (by omega) (by omega) (by omega) hw0 hw1 hw2 ha hb hc hn0 hn1 hn2 rfl rfl rfl hV hv64 ea eb ec hdec.1 hdec.2 L H hG h hsn hm
end
end Go.Proofs.Ytohmibmakelclaa

namespace Go.Proofs.Ytohmibmakelclaa
set_option linter.unusedVariables false
set_option linter.unusedSimpArgs false
open Go.RowKit

set_option maxRecDepth 100000 in
set_option maxHeartbeats 400000 in
theorem newBuilder_any (w : World) (B : Nat) (hB : B ≤ w.heap.size) :
    Calls Try.prog 96 #[] w fun e w' => e = .returned (.pointer (some ⟨w.heap.size + 1, 0, none⟩)) ∧ BInv w' B w.heap.size (w.heap.size + 1) [] (.slice none 0 0) ∧ Below w.heap.size w w' ∧ w'.heap.size = w.heap.size + 2 := by
  have hmm := @run_makeMap Try.prog
  obtain ⟨w3, e3⟩ : ∃ w3, w.alloc (.map #[] 0) = w3 := ⟨_, rfl⟩
  have m3 : IntMap Try.prog 44 3 w3 w.heap.size 0 brVal (fun _ => none) := by
    have := IntMap.made (P := Try.prog) (k := 44) (e := 3) (kv := brVal) w
    rw [e3] at this; exact this
  have B3 : Below w.heap.size w w3 := by rw [← e3]; exact (Below.refl _ _).alloc (Nat.le_refl _) _
  have z3 : w3.heap.size = w.heap.size + 1 := by rw [← e3]; simp
  obtain ⟨w4, b4, e4, hb4, z4, h4, B4⟩ := laid w3 #[.slice none 0 0, .map (some w.heap.size)] 84
  obtain rfl : b4 = w.heap.size + 1 := by omega
  have INV : Hid (BInv w4 B w.heap.size (w.heap.size + 1) [] (.slice none 0 0)) :=
    ⟨h4, World.ownsRow_nil _ _ _ _, ⟨0, Nat.zero_le _, (m3.step (Step.of_below B4 NoB) (fun h => h)).congr (fun x => by simp [knownF])⟩, .nil, by omega, hB⟩
  have BW : Hid (Below w.heap.size w w4) := B3.trans (B4.mono B3.size)
  have Z4 : Hid (w4.heap.size = w.heap.size + 2) := by show _ = _; omega
  clear m3 B3 B4 h4
  go_enter Try.func96, Try.ntmps96
  go_wp2_with (fail)
  go_ret
  exact ⟨rfl, INV.out, BW.out, Z4.out⟩

end Go.Proofs.Ytohmibmakelclaa

namespace Go.Proofs.Ytohmibmakelclaa
set_option linter.unusedVariables false
set_option linter.unusedSimpArgs false
open Go.RowKit

theorem DgAt.fresh {w : World} {v : Value} {D : Dg} (h : DgAt w NoB v D) : DgAt w (fun k => w.heap.size ≤ k) v D :=
  h.step ((Step.refl NoB w).to (fun _ h => h) (fun k hk => .inr hk))

set_option maxRecDepth 100000 in
set_option maxHeartbeats 2000000 in
theorem combine_any (w : World) (S0 S1 S2 : Value) (D0 D1 D2 : Dg) (fo : FuncId) (caps : Array Value) (op : Bool → Bool → Bool → Bool) (hd0 : DgAt w NoB (.agg #[S0, .int .i64 D0.root]) D0) (hd1 : DgAt w NoB (.agg #[S1, .int .i64 D1.root]) D1) (hd2 : DgAt w NoB (.agg #[S2, .int .i64 D2.root]) D2)
    (hw0 : Wf D0.nodes) (hw1 : Wf D1.nodes) (hw2 : Wf D2.nodes) (hn0 : D0.nodes.length ≤ 4096) (hn1 : D1.nodes.length ≤ 4096) (hn2 : D2.nodes.length ≤ 4096) (p0 : 0 ≤ D0.root) (p1 : 0 ≤ D1.root) (p2 : 0 ≤ D2.root) (q0 : D0.root ≤ D0.nodes.length + 1) (q1 : D1.root ≤ D1.nodes.length + 1) (q2 : D2.root ≤ D2.nodes.length + 1)
    (hop : OpDoes w w.heap.size fo caps op) :
    Calls Try.prog 69 #[.agg #[S0, .int .i64 D0.root, S1, .int .i64 D1.root, S2, .int .i64 D2.root], .func (.func fo) #[] caps] w fun e w' => ∃ r t, e = .returned r ∧ Good op D0.tree D1.tree D2.tree t ∧ (∀ M : Nat → Prop, (∀ b, M b → b < w.heap.size) → DgAt w' M r t.canon) ∧ Below w.heap.size w w' := by
  have hmm := @run_makeMap Try.prog
  obtain ⟨w1, b0, e1, hb0, z1, h1, B1⟩ := laid w #[S0, .int .i64 D0.root, S1, .int .i64 D1.root, S2, .int .i64 D2.root] 89
  obtain ⟨w2, b1, e2, hb1, z2, h2, B2⟩ := laid w1 #[.func (.func fo) #[] caps] 90
  obtain rfl : b1 = b0 + 1 := by omega
  replace z2 : w2.heap.size = b0 + 2 := by omega
  clear hb1
  obtain ⟨w3, b2, e3, hb2, z3, h3, B3⟩ := laid w2 dg0 28
  obtain rfl : b2 = b0 + 2 := by omega
  replace z3 : w3.heap.size = b0 + 3 := by omega
  clear hb2
  have Z3 := Lib.hid z3; have H1 := Lib.hid h1; have H2 := Lib.hid h2; have H3 := Lib.hid h3; have Q1 := Lib.hid B1; have Q2 := Lib.hid B2; have Q3 := Lib.hid B3; have HB0 := Lib.hid hb0; have Z1 := Lib.hid z1; have Z2 := Lib.hid z2
  have HD : Hid (DgAt w NoB (.agg #[S0, .int .i64 D0.root]) D0 ∧ DgAt w NoB (.agg #[S1, .int .i64 D1.root]) D1 ∧ DgAt w NoB (.agg #[S2, .int .i64 D2.root]) D2) := ⟨hd0, hd1, hd2⟩
  have HOP : Hid (OpDoes w b0 fo caps op) := by show OpDoes _ _ _ _ _; rw [← hb0]; exact hop
  clear h1 h2 h3 B1 B2 B3 hd0 hd1 hd2 hop
  go_enter Try.func69, Try.ntmps69
  go_wp2_with (fail)
  refine (newBuilder_any w3 b0 (by omega)).mono ?_
  rintro e w4 ⟨rfl, hI, hb4, z4⟩
  rw [Z3.out] at hI z4 ⊢
  rw [show b0 + 3 + 1 = b0 + 4 from rfl] at hI ⊢
  rw [show b0 + 3 + 2 = b0 + 5 from rfl] at z4
  clear e1 e2 e3 z1 z2 z3
  obtain ⟨w5, b5, e5, hb5, z5, h5, B5⟩ := laid w4 #[.pointer none] 81
  obtain rfl : b5 = b0 + 5 := by omega
  replace z5 : w5.heap.size = b0 + 6 := by omega
  clear hb5
  obtain ⟨w6, e6⟩ : ∃ w6, w5.setCell ⟨b0 + 5, 0, none⟩ (.pointer (some ⟨b0 + 4, 0, none⟩)) = w6 := ⟨_, rfl⟩
  have h6 : w6.heap[b0 + 5]? = some (.cells #[.pointer (some ⟨b0 + 4, 0, none⟩)] 81 (0, 0)) := by rw [← e6, heap_setCell_same w5 (b0 + 5) 0 _ _ _ h5]; rfl
  have z6 : w6.heap.size = b0 + 6 := by rw [← e6]; simpa [World.setCell] using z5
  have k6 : ∀ k, k ≠ b0 + 5 → w6.heap[k]? = w5.heap[k]? := fun k hk => by rw [← e6]; exact heap_setCell_other w5 ⟨b0 + 5, 0, none⟩ k _ hk
  have x5 := cell1_of h5
  have f5 := frozen_box h5 0
  obtain ⟨w7, e7⟩ : ∃ w7, w6.alloc (.map #[] 0) = w7 := ⟨_, rfl⟩
  have m7 : IntMap Try.prog 114 3 w7 (b0 + 6) 0 val3 (fun _ => none) := by
    have := IntMap.made (P := Try.prog) (k := 114) (e := 3) (kv := val3) w6
    rw [e7, z6] at this; exact this
  have B7 : Below w6.heap.size w6 w7 := by rw [← e7]; exact (Below.refl _ _).alloc (Nat.le_refl _) _
  have z7 : w7.heap.size = b0 + 7 := by rw [← e7]; simp [z6]
  obtain ⟨w8, b8, e8, hb8, z8, h8, B8⟩ := laid w7 #[.map none] 112
  obtain rfl : b8 = b0 + 7 := by omega
  replace z8 : w8.heap.size = b0 + 8 := by omega
  clear hb8
  obtain ⟨w9, e9⟩ : ∃ w9, w8.setCell ⟨b0 + 7, 0, none⟩ (.map (some (b0 + 6))) = w9 := ⟨_, rfl⟩
  have h9 : w9.heap[b0 + 7]? = some (.cells #[.map (some (b0 + 6))] 112 (0, 0)) := by rw [← e9, heap_setCell_same w8 (b0 + 7) 0 _ _ _ h8]; rfl
  have z9 : w9.heap.size = b0 + 8 := by rw [← e9]; simpa [World.setCell] using z8
  have k9 : ∀ k, k ≠ b0 + 7 → w9.heap[k]? = w8.heap[k]? := fun k hk => by rw [← e9]; exact heap_setCell_other w8 ⟨b0 + 7, 0, none⟩ k _ hk
  have x8 := cell1_of h8
  have f8 := frozen_box h8 0
  obtain ⟨w10, b10, e10, hb10, z10, h10, B10⟩ := laid w9 #[.nilFunc] 113
  obtain rfl : b10 = b0 + 8 := by omega
  replace z10 : w10.heap.size = b0 + 9 := by omega
  clear hb10
  obtain ⟨w11, e11⟩ : ∃ w11, w10.setCell ⟨b0 + 8, 0, none⟩ (combFn (b0 + 1) (b0 + 7) b0 (b0 + 8) (b0 + 5)) = w11 := ⟨_, rfl⟩
  have h11 : w11.heap[b0 + 8]? = some (.cells #[combFn (b0 + 1) (b0 + 7) b0 (b0 + 8) (b0 + 5)] 113 (0, 0)) := by rw [← e11, heap_setCell_same w10 (b0 + 8) 0 _ _ _ h10]; rfl
  have z11 : w11.heap.size = b0 + 9 := by rw [← e11]; simpa [World.setCell] using z10
  have k11 : ∀ k, k ≠ b0 + 8 → w11.heap[k]? = w10.heap[k]? := fun k hk => by rw [← e11]; exact heap_setCell_other w10 ⟨b0 + 8, 0, none⟩ k _ hk
  have x10 := cell1_of h10
  have f10 := frozen_box h10 0
  have Bw3 : Below w.heap.size w w3 := Q1.out.trans ((Q2.out.mono Q1.out.size).trans (Q3.out.mono (by have := Q1.out.size; have := Q2.out.size; omega)))
  have Bw11 : Below w4.heap.size w4 w11 := by
    have t1 : Step NoB w4 NoB w5 := Step.of_below B5 NoB
    have t2 : Step NoB w4 NoB w6 := by rw [← e6]; exact t1.setCell (p := ⟨b0 + 5, 0, none⟩) (.inr (by show _ ≤ b0 + 5; omega)) _
    have t3 : Step NoB w4 NoB w7 := by rw [← e7]; exact t2.alloc _
    have t4 : Step NoB w4 NoB w8 := by rw [← e8]; exact t3.alloc _
    have t5 : Step NoB w4 NoB w9 := by rw [← e9]; exact t4.setCell (p := ⟨b0 + 7, 0, none⟩) (.inr (by show _ ≤ b0 + 7; omega)) _
    have t6 : Step NoB w4 NoB w10 := by rw [← e10]; exact t5.alloc _
    have t7 : Step NoB w4 NoB w11 := by rw [← e11]; exact t6.setCell (p := ⟨b0 + 8, 0, none⟩) (.inr (by show _ ≤ b0 + 8; omega)) _
    exact t7.below
  have Bw34 : Below w3.heap.size w3 w11 := hb4.trans (Bw11.mono hb4.size)
  have BW : Below w.heap.size w w11 := Bw3.trans (Bw34.mono Bw3.size)
  have old3 : ∀ k, k < b0 + 3 → w11.heap[k]? = w3.heap[k]? := fun k hk => Bw34.block k (by have := Z3.out; omega)
  have old : Step NoB w (fun k => b0 ≤ k) w11 := (Step.of_below BW NoB).to (fun _ h => h) (fun k hk => .inr (by omega))
  have INV : Hid (CInv w w11 b0 fo caps op D0 D1 D2 S0 S1 S2 (b0 + 1) (b0 + 7) b0 (b0 + 8) (b0 + 5) (b0 + 6) (b0 + 3) (b0 + 4) [] (.slice none 0 0) []) := by
    refine ⟨?_, ?_, ?_, h11, ?_, HD.out.1.step old, HD.out.2.1.step old, HD.out.2.2.step old, hI.below Bw11, ⟨0, Nat.zero_le _, ?_⟩, by simp, by simp, BW.mono (by omega), by omega, by omega⟩
    · exact (old3 (b0 + 1) (by omega)).trans ((Q3.out.block _ (by have := Z2.out; omega)).trans H2.out)
    · exact (k11 _ (by omega)).trans ((B10.block _ (by omega)).trans h9)
    · exact (old3 b0 (by omega)).trans ((Q3.out.block _ (by have := Z2.out; omega)).trans ((Q2.out.block _ (by have := Z1.out; omega)).trans H1.out))
    · exact (k11 _ (by omega)).trans ((B10.block _ (by omega)).trans ((k9 _ (by omega)).trans ((B8.block _ (by omega)).trans ((B7.block _ (by omega)).trans h6))))
    · refine ((m7.block ?_).congr (fun x => rfl))
      exact (k11 _ (by omega)).trans ((B10.block _ (by omega)).trans ((k9 _ (by omega)).trans (B8.block _ (by omega))))
  have R11 : Hid (w11.heap[b0 + 2]? = some (.cells dg0 28 (0, 0))) := (old3 (b0 + 2) (by omega)).trans H3.out
  have HBW := Lib.hid BW; have Z11 := Lib.hid z11
  clear hI hb4 h5 h6 k6 m7 B5 B7 h8 h9 k9 B8 h10 h11 z11 k11 B10 Bw3 Bw11 Bw34 BW old3 old
  go_wp2_with (fail)
  have SX : Hid (∀ w' : World, ∀ {ns' S' ms'}, CInv w w' b0 fo caps op D0 D1 D2 S0 S1 S2 (b0 + 1) (b0 + 7) b0 (b0 + 8) (b0 + 5) (b0 + 6) (b0 + 3) (b0 + 4) ns' S' ms' → w'.cell? ⟨b0 + 5, 0, none⟩ = some (.pointer (some ⟨b0 + 4, 0, none⟩)) ∧ w'.cell? ⟨b0 + 8, 0, none⟩ = some (combFn (b0 + 1) (b0 + 7) b0 (b0 + 8) (b0 + 5)) ∧ w'.cell? ⟨b0, 0, none⟩ = some S0 ∧ w'.cell? ⟨b0, 1, none⟩ = some (.int .i64 D0.root) ∧ w'.cell? ⟨b0, 2, none⟩ = some S1 ∧ w'.cell? ⟨b0, 3, none⟩ = some (.int .i64 D1.root) ∧ w'.cell? ⟨b0, 4, none⟩ = some S2 ∧ w'.cell? ⟨b0, 5, none⟩ = some (.int .i64 D2.root)) := fun w' {ns' S' ms'} hc => ⟨cell1_of hc.b, cell1_of hc.a, box6 hc.l⟩
  have INVd : Hid (CInv w w11.drew b0 fo caps op D0 D1 D2 S0 S1 S2 (b0 + 1) (b0 + 7) b0 (b0 + 8) (b0 + 5) (b0 + 6) (b0 + 3) (b0 + 4) [] (.slice none 0 0) []) := INV.out.below (Below.refl _ _).drew
  refine wp_region_held_drew (S := fun w' => w'.cell? ⟨b0 + 5, 0, none⟩ = some (.pointer (some ⟨b0 + 4, 0, none⟩)) ∧ w'.cell? ⟨b0 + 8, 0, none⟩ = some (combFn (b0 + 1) (b0 + 7) b0 (b0 + 8) (b0 + 5)) ∧ w'.cell? ⟨b0, 0, none⟩ = some S0 ∧ w'.cell? ⟨b0, 1, none⟩ = some (.int .i64 D0.root) ∧ w'.cell? ⟨b0, 2, none⟩ = some S1 ∧ w'.cell? ⟨b0, 3, none⟩ = some (.int .i64 D1.root) ∧ w'.cell? ⟨b0, 4, none⟩ = some S2 ∧ w'.cell? ⟨b0, 5, none⟩ = some (.int .i64 D2.root)) (by kernel_rfl) (SX.out _ INVd.out) (fun hS => ?_)
  refine wpAnyH_take (i := 0) (v := .pointer (some ⟨b0 + 4, 0, none⟩)) rfl (by kernel_rfl) (by kernel_rfl) (by kernel_rfl) (fun _ _ _ h => h) (Or.inl ⟨by rfl, ?_⟩) hS ?_
  · intro w hSw
    go_split_ands
    go_simp
  try simp only [Act.put, List.getElem_toArray, List.getElem_cons_zero, List.getElem_cons_succ, List.setIfInBounds_toArray, List.set_cons_zero, List.set_cons_succ]
  refine wpAnyH_take (i := 1) (v := combFn (b0 + 1) (b0 + 7) b0 (b0 + 8) (b0 + 5)) rfl (by kernel_rfl) (by kernel_rfl) (by kernel_rfl) (fun _ _ _ h => h) (Or.inl ⟨by rfl, ?_⟩) hS ?_
  · intro w hSw
    go_split_ands
    go_simp
  try simp only [Act.put, List.getElem_toArray, List.getElem_cons_zero, List.getElem_cons_succ, List.setIfInBounds_toArray, List.set_cons_zero, List.set_cons_succ]
  refine wpAnyH_take (i := 2) (v := .pointer (some ⟨b0, 0, none⟩)) rfl (by kernel_rfl) (by kernel_rfl) (by kernel_rfl) (fun _ _ _ h => h) (Or.inl ⟨by rfl, ?_⟩) hS ?_
  · intro w hSw
    go_split_ands
    go_simp
  try simp only [Act.put, List.getElem_toArray, List.getElem_cons_zero, List.getElem_cons_succ, List.setIfInBounds_toArray, List.set_cons_zero, List.set_cons_succ]
  refine wpAnyH_take (i := 3) (v := .pointer (some ⟨b0, 1, none⟩)) rfl (by kernel_rfl) (by kernel_rfl) (by kernel_rfl) (fun _ _ _ h => h) (Or.inl ⟨by rfl, ?_⟩) hS ?_
  · intro w hSw
    go_split_ands
    go_simp
  try simp only [Act.put, List.getElem_toArray, List.getElem_cons_zero, List.getElem_cons_succ, List.setIfInBounds_toArray, List.set_cons_zero, List.set_cons_succ]
  refine wpAnyH_take (i := 4) (v := .int .i64 D0.root) rfl (by kernel_rfl) (by kernel_rfl) (by kernel_rfl) (fun _ _ _ h => h) (Or.inl ⟨by rfl, ?_⟩) hS ?_
  · intro w hSw
    go_split_ands
    go_simp
  try simp only [Act.put, List.getElem_toArray, List.getElem_cons_zero, List.getElem_cons_succ, List.setIfInBounds_toArray, List.set_cons_zero, List.set_cons_succ]
  refine wpAnyH_take (i := 5) (v := .pointer (some ⟨b0, 2, none⟩)) rfl (by kernel_rfl) (by kernel_rfl) (by kernel_rfl) (fun _ _ _ h => h) (Or.inl ⟨by rfl, ?_⟩) hS ?_
  · intro w hSw
    go_split_ands
    go_simp
  try simp only [Act.put, List.getElem_toArray, List.getElem_cons_zero, List.getElem_cons_succ, List.setIfInBounds_toArray, List.set_cons_zero, List.set_cons_succ]
  refine wpAnyH_take (i := 6) (v := .pointer (some ⟨b0, 3, none⟩)) rfl (by kernel_rfl) (by kernel_rfl) (by kernel_rfl) (fun _ _ _ h => h) (Or.inl ⟨by rfl, ?_⟩) hS ?_
  · intro w hSw
    go_split_ands
    go_simp
  try simp only [Act.put, List.getElem_toArray, List.getElem_cons_zero, List.getElem_cons_succ, List.setIfInBounds_toArray, List.set_cons_zero, List.set_cons_succ]
  refine wpAnyH_take (i := 7) (v := .int .i64 D1.root) rfl (by kernel_rfl) (by kernel_rfl) (by kernel_rfl) (fun _ _ _ h => h) (Or.inl ⟨by rfl, ?_⟩) hS ?_
  · intro w hSw
    go_split_ands
    go_simp
  try simp only [Act.put, List.getElem_toArray, List.getElem_cons_zero, List.getElem_cons_succ, List.setIfInBounds_toArray, List.set_cons_zero, List.set_cons_succ]
  refine wpAnyH_take (i := 8) (v := .pointer (some ⟨b0, 4, none⟩)) rfl (by kernel_rfl) (by kernel_rfl) (by kernel_rfl) (fun _ _ _ h => h) (Or.inl ⟨by rfl, ?_⟩) hS ?_
  · intro w hSw
    go_split_ands
    go_simp
  try simp only [Act.put, List.getElem_toArray, List.getElem_cons_zero, List.getElem_cons_succ, List.setIfInBounds_toArray, List.set_cons_zero, List.set_cons_succ]
  refine wpAnyH_take (i := 9) (v := .pointer (some ⟨b0, 5, none⟩)) rfl (by kernel_rfl) (by kernel_rfl) (by kernel_rfl) (fun _ _ _ h => h) (Or.inl ⟨by rfl, ?_⟩) hS ?_
  · intro w hSw
    go_split_ands
    go_simp
  try simp only [Act.put, List.getElem_toArray, List.getElem_cons_zero, List.getElem_cons_succ, List.setIfInBounds_toArray, List.set_cons_zero, List.set_cons_succ]
  refine wpAnyH_take (i := 10) (v := .int .i64 D2.root) rfl (by kernel_rfl) (by kernel_rfl) (by kernel_rfl) (fun _ _ _ h => h) (Or.inl ⟨by rfl, ?_⟩) hS ?_
  · intro w hSw
    go_split_ands
    go_simp
  try simp only [Act.put, List.getElem_toArray, List.getElem_cons_zero, List.getElem_cons_succ, List.setIfInBounds_toArray, List.set_cons_zero, List.set_cons_succ]
  refine wpAnyH_take (i := 11) (v := .agg #[.int .i64 D0.root, .int .i64 D1.root, .int .i64 D2.root]) rfl (by kernel_rfl) (by kernel_rfl) (by kernel_rfl) (fun _ _ _ h => h) (Or.inl ⟨by rfl, ?_⟩) hS ?_
  · intro w hSw
    go_split_ands
    go_simp
  try simp only [Act.put, List.getElem_toArray, List.getElem_cons_zero, List.getElem_cons_succ, List.setIfInBounds_toArray, List.set_cons_zero, List.set_cons_succ]
  refine wpAnyH_ready (rs := [12]) (by kernel_rfl) (by simp) ?_
  refine AllReadyH.cons rfl (fun K hK => ?_) AllReadyH.nil
  try simp only [Act.put, List.getElem_toArray, List.getElem_cons_zero, List.getElem_cons_succ, List.setIfInBounds_toArray, List.set_cons_zero, List.set_cons_succ]
  go_simp
  have e0 : ((D0.root.toNat : Nat) : Int) = D0.root := Int.toNat_of_nonneg p0
  have e1 : ((D1.root.toNat : Nat) : Int) = D1.root := Int.toNat_of_nonneg p1
  have e2 : ((D2.root.toNat : Nat) : Int) = D2.root := Int.toNat_of_nonneg p2
  have AT := at_any (S0 := S0) (S1 := S1) (S2 := S2) (po := b0 + 1) (pm := b0 + 7) (pl := b0) (pa := b0 + 8) (pb := b0 + 5) (mb := b0 + 6) (mk := b0 + 3) (bb := b0 + 4) HOP.out hw0 hw1 hw2 hn0 hn1 hn2 _ D0.root.toNat D1.root.toNat D2.root.toNat (Nat.le_refl _) (by omega) (by omega) (by omega) w11.drew [] (.slice none 0 0) [] INVd.out (Nat.le_refl _)
  simp only [e0, e1, e2] at AT
  refine AT.mono ?_
  clear AT
  rintro e w12 ⟨r, x, S', y, rfl, hC, hs, hr, hg, -, hz⟩
  rw [List.nil_append] at hC hr hg hz
  rw [List.append_nil] at hC hz
  have R12 : Hid (w12.heap[b0 + 2]? = some (.cells dg0 28 (0, 0))) := by
    refine (hs.block (b0 + 2) (by show _ < w11.heap.size; have := Z11.out; omega) ?_).trans R11.out
    rintro (h | h | h | h)
    · omega
    · omega
    · omega
    · simp [Value.ownBlock] at h
  have BW12 : Hid (Below w.heap.size w w12) := by
    have hb0' := HB0.out
    have hh := HBW.out
    refine hh.trans (((Below.refl _ w11).drew).trans (Step.belowB hs (by show _ ≤ w11.heap.size; exact hh.size) ?_))
    rintro k (h | h | h | h)
    · omega
    · omega
    · omega
    · simp [Value.ownBlock] at h
  have HC := Lib.hid hC; have HR := Lib.hid hr; have HG := Lib.hid hg; have HZ := Lib.hid hz
  clear hC hs hr hg hz e0 e1 e2
  refine hK.out _ _ (SX.out _ HC.out) (fun hS => ?_)
  clear hK K
  try simp only [Act.put, List.getElem_toArray, List.getElem_cons_zero, List.getElem_cons_succ, List.setIfInBounds_toArray, List.set_cons_zero, List.set_cons_succ]
  refine wpAnyH_ready (rs := [13]) (by kernel_rfl) (by simp) ?_
  refine AllReadyH.cons rfl (fun K hK => ?_) AllReadyH.nil
  try simp only [Act.put, List.getElem_toArray, List.getElem_cons_zero, List.getElem_cons_succ, List.setIfInBounds_toArray, List.set_cons_zero, List.set_cons_succ]
  go_simp
  have hlx : x.length ≤ 68820640000 := Nat.le_trans HZ.out (Nat.le_trans HC.out.len (room_le hn0 hn1 hn2))
  refine (diagram_any w12 (b0 + 4) S' x (cell_of_row w12 (b0 + 4) 0 _ _ _ HC.out.bi.b) (brs_of_own HC.out.bi.row (fun b _ h => h.elim)) HC.out.bi.wf (by omega) r HR.out).mono ?_
  rintro e w13 ⟨rv, rfl, hM, hb13⟩
  obtain ⟨sa, sc, rfl⟩ := (hM NoB (fun b h => h.elim)).shape
  have HM := Lib.hid hM
  have R13 : Hid (w13.heap[b0 + 2]? = some (.cells dg0 28 (0, 0))) := (hb13.block _ (by have := R12.out; rw [Array.getElem?_eq_some_iff] at this; exact this.1)).trans R12.out
  have BW13 : Hid (Below w.heap.size w w13) := BW12.out.trans (hb13.mono BW12.out.size)
  have HC13 := Lib.hid (HC.out.below hb13)
  obtain ⟨g0, g1⟩ := box2 (r := 0) (S := .slice none 0 0) R13.out
  have g2 := frozen_box R13.out
  have L2 : Hid (b0 + 2 < w12.heap.size) := by have := R12.out; rw [Array.getElem?_eq_some_iff] at this; exact this.1
  clear hM hb13
  obtain ⟨w14, e14, P14, Q14, S14⟩ := put2 (w0 := w) (c0 := .slice sa (tr x r).canon.nodes.length sc) (c1 := .int .i64 (tr x r).canon.root) R13.out BW13.out (by have := HB0.out; omega)
  have SW14 : Hid (w14.cell? ⟨b0 + 5, 0, none⟩ = some (.pointer (some ⟨b0 + 4, 0, none⟩)) ∧ w14.cell? ⟨b0 + 8, 0, none⟩ = some (combFn (b0 + 1) (b0 + 7) b0 (b0 + 8) (b0 + 5)) ∧ w14.cell? ⟨b0, 0, none⟩ = some S0 ∧ w14.cell? ⟨b0, 1, none⟩ = some (.int .i64 D0.root) ∧ w14.cell? ⟨b0, 2, none⟩ = some S1 ∧ w14.cell? ⟨b0, 3, none⟩ = some (.int .i64 D1.root) ∧ w14.cell? ⟨b0, 4, none⟩ = some S2 ∧ w14.cell? ⟨b0, 5, none⟩ = some (.int .i64 D2.root)) := by
    have lt13 : ∀ (g : Nat) (o : Obj), w13.heap[g]? = some o → g < w13.heap.size := fun g o hg => by rw [Array.getElem?_eq_some_iff] at hg; exact hg.1
    refine ⟨cell1_of ((S14.block (b0 + 5) (lt13 _ _ HC13.out.b) (by omega)).trans HC13.out.b), cell1_of ((S14.block (b0 + 8) (lt13 _ _ HC13.out.a) (by omega)).trans HC13.out.a), box6 ((S14.block b0 (lt13 _ _ HC13.out.l) (by omega)).trans HC13.out.l)⟩
  have HP14 := Lib.hid P14; have HQ14 := Lib.hid Q14; have HS14 := Lib.hid S14
  clear P14 Q14 S14
  refine hK.out _ _ (SX.out _ HC13.out) (fun hS => ?_)
  clear hK K
  try simp only [Act.put, List.getElem_toArray, List.getElem_cons_zero, List.getElem_cons_succ, List.setIfInBounds_toArray, List.set_cons_zero, List.set_cons_succ]
  refine wpAnyH_ready (rs := [14]) (by kernel_rfl) (by simp) ?_
  refine AllReadyH.cons rfl (fun K hK => ?_) AllReadyH.nil
  try simp only [Act.put, List.getElem_toArray, List.getElem_cons_zero, List.getElem_cons_succ, List.setIfInBounds_toArray, List.set_cons_zero, List.set_cons_succ]
  go_simp
  refine hK.out _ _ (SW14.out) (fun hS => ?_)
  clear hK K
  try simp only [Act.put, List.getElem_toArray, List.getElem_cons_zero, List.getElem_cons_succ, List.setIfInBounds_toArray, List.set_cons_zero, List.set_cons_succ]
  refine wpAnyH_done (by kernel_rfl) ?_ _
  try simp only [Act.put, List.getElem_toArray, List.getElem_cons_zero, List.getElem_cons_succ, List.setIfInBounds_toArray, List.set_cons_zero, List.set_cons_succ]
  clear hS
  obtain ⟨u0, u1⟩ := box2 HP14.out
  clear z4 e5 z5 e6 z6 x5 f5 e7 z7 e8 z8 e9 z9 x8 f8 e10 z10 e11 x10 f10 e14 g0 g1 g2
  go_wp2_with (fail)
  refine bodyPost_ret (v := .agg #[.slice sa (tr x r).canon.nodes.length sc, .int .i64 (tr x r).canon.root]) (by simp [results, Try.results69, go_sem, u0, u1]) rfl ?_
  refine ⟨_, tr x r, rfl, HG.out, fun M hM => ?_, HQ14.out⟩
  have h1 := HM.out (fun k => M k ∨ k = b0 + 2) (fun b hb => by
    rcases hb with hb | hb
    · have := hM b hb; have := BW12.out.size; omega
    · rw [hb]; exact L2.out)
  exact (h1.step (HS14.out.wide (fun k hk => .inr hk))).wide (fun k hk => .inl hk)

end Go.Proofs.Ytohmibmakelclaa

namespace Go.Proofs.Ytohmibmakelclaa
set_option linter.unusedVariables false
set_option linter.unusedSimpArgs false
open Go.RowKit

/-- What limited hands back. -/
def lim (v : Value) (n : Nat) : Value := if n ≤ 4096 then .tuple #[v, .int .i64 0] else .tuple #[.agg dg0, .int .i64 2]

set_option maxRecDepth 100000 in
set_option maxHeartbeats 400000 in
theorem limited_any (w : World) (a : Option Addr) (n c : Nat) (r : Int) (hn : n ≤ 9223372036854775807) :
    Calls Try.prog 68 #[.agg #[.slice a n c, .int .i64 r]] w fun e w' => e = .returned (lim (.agg #[.slice a n c, .int .i64 r]) n) ∧ Below w.heap.size w w' := by
  obtain ⟨w0, b0, e0, hb0, z0, h0, B0⟩ := laid w #[.slice a n c, .int .i64 r] 28
  obtain ⟨w1, b1, e1, hb1, z1, h1, B1⟩ := laid w0 dg0 28
  obtain rfl : b1 = b0 + 1 := by omega
  replace z1 : w1.heap.size = b0 + 2 := by omega
  clear hb1
  have BW : Hid (Below w.heap.size w w1) := B0.trans (B1.mono B0.size)
  have h0' := heap_below B1 h0
  obtain ⟨x0, x1⟩ := box2 h0'
  obtain ⟨y0, y1⟩ := box2 (r := 0) (S := .slice none 0 0) h1
  have yf := frozen_box h1
  have H1 := Lib.hid h1; have HB0 := Lib.hid hb0
  clear h0 h0' h1 B0 B1
  by_cases hs : n ≤ 4096
  · have HL : Hid (lim (.agg #[.slice a n c, .int .i64 r]) n = .tuple #[.agg #[.slice a n c, .int .i64 r], .int .i64 0]) := by show _ = _; unfold lim; rw [if_pos hs]
    have hs' : (n : Int) ≤ 4096 := by omega
    clear hs
    go_enter Try.func68, Try.ntmps68
    go_wp2_with (fail)
    obtain ⟨w2, e2, P2, Q2, -⟩ := put2 (w0 := w) (c0 := .slice a n c) (c1 := .int .i64 r) H1.out BW.out (by have := HB0.out; omega)
    rw [e2]
    obtain ⟨u0, u1⟩ := box2 P2
    refine bodyPost_ret (v := .tuple #[.agg #[.slice a n c, .int .i64 r], .int .i64 0]) (by simp [results, Try.results68, go_sem, u0, u1]) rfl ?_
    exact ⟨by rw [HL.out], by first | exact Q2 | (rw [← HB0.out]; exact Q2)⟩
  · have HL : Hid (lim (.agg #[.slice a n c, .int .i64 r]) n = .tuple #[.agg dg0, .int .i64 2]) := by show _ = _; unfold lim; rw [if_neg hs]
    have hs' : 4096 < (n : Int) := by omega
    clear hs
    go_enter Try.func68, Try.ntmps68
    go_wp2_with (fail)
    obtain ⟨w2, e2, P2, Q2, -⟩ := put2 (w0 := w) (c0 := .slice none 0 0) (c1 := .int .i64 0) H1.out BW.out (by have := HB0.out; omega)
    rw [e2]
    obtain ⟨u0, u1⟩ := box2 P2
    refine bodyPost_ret (v := .tuple #[.agg dg0, .int .i64 2]) (by simp [results, Try.results68, go_sem, u0, u1]) rfl ?_
    exact ⟨by rw [HL.out], by first | exact Q2 | (rw [← HB0.out]; exact Q2)⟩

end Go.Proofs.Ytohmibmakelclaa

namespace Go.Proofs.Ytohmibmakelclaa
set_option linter.unusedVariables false
set_option linter.unusedSimpArgs false
open Go.RowKit

/-- The cells of a row of diagrams. -/
def dcells : List (Value × Dg) → List Value
  | [] => []
  | (S, D) :: r => S :: .int .i64 D.root :: dcells r
theorem dcells_get : ∀ (vs : List (Value × Dg)) (j : Nat) (h : j < vs.length), (dcells vs)[j * 2]? = some vs[j].1 ∧ (dcells vs)[j * 2 + 1]? = some (.int .i64 vs[j].2.root)
  | (S, D) :: r, 0, _ => by simp [dcells]
  | (S, D) :: r, j + 1, h => by
    have := dcells_get r j (by simpa using h)
    simp only [dcells]
    rw [show (j + 1) * 2 = j * 2 + 2 by omega, show j * 2 + 2 + 1 = (j * 2 + 1) + 2 by omega]
    simpa using this
/-- The first error of some diagrams. -/
noncomputable def errOf : List (Value × Dg) → Int
  | [] => 0
  | (S, D) :: r => if code D = 0 then errOf r else code D
theorem errOf_drop {vs : List (Value × Dg)} {j : Nat} (h : j < vs.length) : errOf (vs.drop j) = if code vs[j].2 = 0 then errOf (vs.drop (j + 1)) else code vs[j].2 := by
  rw [List.drop_eq_getElem_cons h]; rfl

set_option maxRecDepth 100000 in
set_option maxHeartbeats 400000 in
theorem checks_any (w : World) (g : Nat) (vs : List (Value × Dg)) (hg : w.heap[g]? = some (.cells (dcells vs).toArray 28 (0, 0))) (hd : ∀ p ∈ vs, DgAt w NoB (.agg #[p.1, .int .i64 p.2.root]) p.2) (hl : vs.length ≤ 100) :
    Calls Try.prog 67 #[.slice (some ⟨g, 0, none⟩) vs.length vs.length] w fun e w' => e = .returned (.int .i64 (errOf vs)) ∧ Below w.heap.size w w' := by
  have HG := Lib.hid hg; have HD := Lib.hid hd
  have E0 : Hid (errOf vs = errOf (vs.drop 0)) := by show _ = _; simp
  have B0 : Hid (Below w.heap.size w w) := Below.refl _ _
  clear hg hd
  go_enter Try.func67, Try.ntmps67
  go_wp2_with (fail)
  go_loopw [8] (fun i wr => ∃ j : Nat, j ≤ vs.length ∧ i = .int .i64 j ∧ Hid (errOf vs = errOf (vs.drop j)) ∧ Hid (Below w.heap.size w wr)) (fun i _ => vs.length - (intOf i).toNat)
  case atStart => exact ⟨0, Nat.zero_le _, rfl, E0, B0⟩
  case round =>
    clear E0 B0
    obtain ⟨j, hj, rfl, ER, BR⟩ := hrel
    by_cases hlt : j < vs.length
    · obtain ⟨a, c, hS⟩ := (HD.out _ (List.getElem_mem hlt)).shape
      have hD := (HD.out _ (List.getElem_mem hlt)).below BR.out
      have hE := errOf_drop hlt
      obtain ⟨g0, g1⟩ := dcells_get vs j hlt
      obtain ⟨p, hp⟩ : ∃ p, vs[j] = p := ⟨_, rfl⟩
      rw [hp] at hS hD hE g0 g1
      obtain ⟨S, D⟩ := p
      obtain rfl : S = .slice a D.nodes.length c := by simpa using hS
      have c0 : wr.cell? ⟨g, j * 2, none⟩ = some (.slice a D.nodes.length c) := by rw [cell_of_row wr g (j * 2) _ _ _ (heap_below BR.out HG.out)]; simpa using g0
      have c1 : wr.cell? ⟨g, j * 2 + 1, none⟩ = some (.int .i64 D.root) := by rw [cell_of_row wr g (j * 2 + 1) _ _ _ (heap_below BR.out HG.out)]; simpa using g1
      obtain ⟨w1, b1, e1, hb1, z1, h1, B1⟩ := laid wr #[.slice a D.nodes.length c, .int .i64 D.root] 28
      obtain ⟨x0, x1⟩ := box2 h1
      have hj0 : (0 : Int) ≤ (j : Int) := by omega
      have hj1 : (j : Int) < (vs.length : Int) := by omega
      have hj2 : (vs.length : Int) ≤ 100 := by omega
      have HD1 : Hid (DgAt w1 NoB (.agg #[.slice a D.nodes.length c, .int .i64 D.root]) D) := hD.below B1
      have HE : Hid (errOf vs = if code D = 0 then errOf (vs.drop (j + 1)) else code D) := ER.out.trans hE
      have BW : Hid (Below w.heap.size w w1) := BR.out.trans (B1.mono BR.out.size)
      clear hS hD hE g0 g1 h1 B1 hp
      go_wp2_with (with_reducible refine wpList_store_last rfl 28 (.tmp 4) (.tmp 11) rfl dg0 #[.slice a D.nodes.length c, .int .i64 D.root] rfl rfl sizedg rfl (by simp [Value.oneCell']) ?_)
      refine (check_any w1 _ D HD1.out).mono ?_
      rintro e w2 ⟨rfl, hb2⟩
      have B2 : Hid (Below w.heap.size w w2) := BW.out.trans (hb2.mono BW.out.size)
      clear hb2 x0 x1 c0 c1 e1
      by_cases hc : code D = 0
      · have HE' : Hid (errOf vs = errOf (vs.drop (j + 1))) := by show _ = _; rw [HE.out, if_pos hc]
        rw [hc]
        clear hc HE
        go_wp2_with (fail)
        go_roundw
        case rel => exact ⟨j + 1, by omega, by go_num, HE', B2⟩
        case measure => simp [intOf]; omega
      · have HE' : Hid (errOf vs = code D) := by show _ = _; rw [HE.out, if_neg hc]
        obtain ⟨x, hx⟩ : ∃ x, code D = x := ⟨_, rfl⟩
        rw [hx] at hc HE' ⊢
        have hne : (x != 0) = true := by simpa using hc
        clear hx HE
        go_wp2_with (fail)
        go_ret
        exact ⟨by rw [HE'.out]; rfl, B2.out⟩
    · have HE' : Hid (errOf vs = 0) := by
        show _ = _
        rw [ER.out, List.drop_eq_nil_of_le (by omega)]; rfl
      obtain rfl : j = vs.length := by omega
      go_wp2_with (fail)
      go_ret
      exact ⟨by rw [HE'.out]; rfl, BR.out⟩

end Go.Proofs.Ytohmibmakelclaa

namespace Go.Proofs.Ytohmibmakelclaa
set_option linter.unusedVariables false
set_option linter.unusedSimpArgs false
open Go.RowKit

/-- A function without captures computes an operation on two constants. -/
def Op2Does (fo : FuncId) (op : Bool → Bool → Bool) : Prop :=
  (∀ (args : Array Value) (w : World), (callFunc fo args).run Try.prog w = .ok (.enter fo args) w) ∧
  ∀ (w : World) (x y : Bool), Calls Try.prog fo #[.bool x, .bool y] w fun e w' => e = .returned (.bool (op x y)) ∧ Below w.heap.size w w'

set_option maxRecDepth 100000 in
set_option maxHeartbeats 400000 in
theorem binary1_any (w : World) (b : Nat) (fo : FuncId) (op : Bool → Bool → Bool) (hb : w.heap[b]? = some (.cells #[.func (.func fo) #[] #[]] 78 (0, 0))) (hop : Op2Does fo op) (x y z : Bool) :
    Calls Try.prog 94 #[.bool x, .bool y, .bool z, .pointer (some ⟨b, 0, none⟩)] w fun e w' => e = .returned (.bool (op x y)) ∧ Below w.heap.size w w' := by
  have c0 := cell1_of hb
  have hen := hop.1
  have HO := Lib.hid hop.2
  clear hb hop
  go_enter Try.func94, Try.ntmps94
  go_wp2_with (fail)
  refine (HO.out w x y).mono ?_
  rintro e w2 ⟨rfl, hb2⟩
  have HB2 := Lib.hid hb2
  clear hb2 hen c0
  go_wp2_with (fail)
  go_ret
  exact ⟨rfl, HB2.out⟩

theorem binary1_op (w : World) (B b : Nat) (hB : b < B) (fo : FuncId) (op : Bool → Bool → Bool) (hb : w.heap[b]? = some (.cells #[.func (.func fo) #[] #[]] 78 (0, 0))) (hop : Op2Does fo op) :
    OpDoes w B 94 #[.pointer (some ⟨b, 0, none⟩)] (fun x y _ => op x y) := by
  refine ⟨fun args w => by go_simp, fun w' hw x y z => ?_⟩
  have hlt : b < w.heap.size := by rw [Array.getElem?_eq_some_iff] at hb; exact hb.1
  exact binary1_any w' b fo op ((hw.block b hB).trans hb) hop x y z

end Go.Proofs.Ytohmibmakelclaa

namespace Go.Proofs.Ytohmibmakelclaa
set_option linter.unusedVariables false
set_option linter.unusedSimpArgs false
open Go.RowKit

theorem code_zero {D : Dg} (h : code D = 0) : D.nodes.length ≤ 4096 ∧ Valid D := by
  unfold code at h
  split at h
  · omega
  · split at h
    · exact ⟨by omega, by assumption⟩
    · omega

/-- What an operation hands back: an error, or the diagram of a set, unless it is too large. -/
def Gives (w w' : World) (e : Ending) (c : Int) (f : (Nat → Bool) → Bool) : Prop :=
  (c ≠ 0 → e = .returned (.tuple #[.agg dg0, .int .i64 c])) ∧ (c = 0 → ∃ (r : Value) (t : T), t.Ok ∧ (∀ x, t.ev x = f x) ∧ e = .returned (lim r t.canon.nodes.length) ∧ ∀ M : Nat → Prop, (∀ b, M b → b < w.heap.size) → DgAt w' M r t.canon)

abbrev zeroDg : Dg := ⟨[], 0⟩
theorem DgAt.zero (w : World) (M : Nat → Prop) : DgAt w M (.agg #[.slice none 0 0, .int .i64 zeroDg.root]) zeroDg :=
  ⟨⟨(fun b hb => by cases hb), ⟨by decide, by decide⟩⟩, _, rfl, Brs.nil w M⟩

/-- The first error of two diagrams. -/
noncomputable def err2 (A B : Dg) : Int := if code A = 0 then code B else code A
theorem errOf_two (u v : Value) (A B : Dg) : errOf [(u, A), (v, B)] = err2 A B := by
  unfold errOf errOf errOf err2
  split
  · split
    · rename_i h; exact h.symm
    · rfl
  · rfl
theorem err2_zero {A B : Dg} (h : err2 A B = 0) : (A.nodes.length ≤ 4096 ∧ Valid A) ∧ B.nodes.length ≤ 4096 ∧ Valid B := by
  unfold err2 at h
  split at h
  · exact ⟨code_zero (by assumption), code_zero h⟩
  · exact absurd h (by assumption)

set_option maxRecDepth 100000 in
set_option maxHeartbeats 2000000 in
theorem binary_any (w : World) (va vb : Value) (Da Db : Dg) (ha : DgAt w NoB va Da) (hb : DgAt w NoB vb Db) (fo : FuncId) (op : Bool → Bool → Bool) (hop : Op2Does fo op) :
    Calls Try.prog 60 #[va, vb, .func (.func fo) #[] #[]] w fun e w' => Gives w w' e (err2 Da Db) (fun x => op (Da.tree.ev x) (Db.tree.ev x)) ∧ Below w.heap.size w w' := by
  obtain ⟨aa, ca, rfl⟩ := ha.shape
  obtain ⟨ab, cb, rfl⟩ := hb.shape
  have hla := ha.brs.len
  have hlb := hb.brs.len
  obtain ⟨w0, b0, e0, hb0, z0, h0, B0⟩ := laid w #[.slice aa Da.nodes.length ca, .int .i64 Da.root] 28
  obtain ⟨w1, b1, e1, hb1, z1, h1, B1⟩ := laid w0 #[.slice ab Db.nodes.length cb, .int .i64 Db.root] 28
  obtain rfl : b1 = b0 + 1 := by omega
  replace z1 : w1.heap.size = b0 + 2 := by omega
  obtain ⟨w2, b2, e2, hb2, z2, h2, B2⟩ := laid w1 #[.func (.func fo) #[] #[]] 78
  obtain rfl : b2 = b0 + 2 := by omega
  replace z2 : w2.heap.size = b0 + 3 := by omega
  obtain ⟨w3, b3, e3, hb3, z3, h3, B3⟩ := laid w2 dg0 28
  obtain rfl : b3 = b0 + 3 := by omega
  replace z3 : w3.heap.size = b0 + 4 := by omega
  obtain ⟨w4, b4, e4, hb4, z4, h4, B4⟩ := laid w3 #[.slice aa Da.nodes.length ca, .int .i64 Da.root, .slice ab Db.nodes.length cb, .int .i64 Db.root] 28
  obtain rfl : b4 = b0 + 4 := by omega
  replace z4 : w4.heap.size = b0 + 5 := by omega
  clear hb1 hb2 hb3 hb4
  have B34 := B3.trans (B4.mono B3.size)
  have B24 := B2.trans (B34.mono B2.size)
  have B14 := B1.trans (B24.mono B1.size)
  have BW : Hid (Below w.heap.size w w4) := B0.trans (B14.mono B0.size)
  have k0 := heap_below B14 h0
  have k1 := heap_below B24 h1
  have k2 := heap_below B34 h2
  have k3 := heap_below B4 h3
  obtain ⟨x0, x1⟩ := box2 (heap_below (B1.trans ((B2.trans (B3.mono B2.size)).mono B1.size)) h0)
  obtain ⟨y0, y1⟩ := box2 (heap_below (B2.trans (B3.mono B2.size)) h1)
  have K0 := Lib.hid k0; have K1 := Lib.hid k1; have K2 := Lib.hid k2; have K3 := Lib.hid k3; have K4 := Lib.hid h4; have Z4 := Lib.hid z4; have HB0 := Lib.hid hb0
  have HA := Lib.hid (ha.below BW.out); have HB := Lib.hid (hb.below BW.out); have HOP := Lib.hid hop
  clear k0 k1 k2 k3 h0 h1 h2 h3 h4 B0 B1 B2 B3 B4 B34 B24 B14 ha hb hop
  go_enter Try.func60, Try.ntmps60
  go_wp2_with (fail)
  refine (checks_any w4 (b0 + 4) [(.slice aa Da.nodes.length ca, Da), (.slice ab Db.nodes.length cb, Db)] K4.out (fun p hp => ?_) (by simp)).mono ?_
  · simp only [List.mem_cons, List.not_mem_nil, or_false] at hp
    rcases hp with rfl | rfl
    · exact HA.out
    · exact HB.out
  rintro e w5 ⟨rfl, hb5⟩
  rw [errOf_two]
  have B5 : Hid (Below w.heap.size w w5) := BW.out.trans (hb5.mono BW.out.size)
  have K0' := heap_below hb5 K0.out
  have K1' := heap_below hb5 K1.out
  have K2' := heap_below hb5 K2.out
  have K3' := heap_below hb5 K3.out
  have HA5 := Lib.hid (HA.out.below hb5); have HB5 := Lib.hid (HB.out.below hb5)
  have Z5 : Hid (b0 + 5 ≤ w5.heap.size) := by show _ ≤ _; have := hb5.size; have := Z4.out; omega
  clear hb5 x0 x1 y0 y1 e0 e1 e2 e3 e4 z0 z1 z2 z3 z4
  obtain ⟨x0, x1⟩ := box2 K0'
  obtain ⟨y0, y1⟩ := box2 K1'
  have f0 := cell1_of K2'
  obtain ⟨r0, r1⟩ := box2 (r := 0) (S := .slice none 0 0) K3'
  have rf := frozen_box K3'
  have K2h := Lib.hid K2'; have K3h := Lib.hid K3'
  clear K0' K1' K2' K3'
  by_cases hc : err2 Da Db = 0
  · rw [hc]
    obtain ⟨⟨la, va⟩, lb, vb⟩ := err2_zero hc
    obtain ⟨a1, a2, a3, -⟩ := (valid_iff Da).1 va
    obtain ⟨c1, c2, c3, -⟩ := (valid_iff Db).1 vb
    have OP := binary1_op w5 w5.heap.size (b0 + 2) (by have := Z5.out; omega) fo op K2h.out HOP.out
    have HOP5 := Lib.hid OP; have HC := Lib.hid hc; have HVA := Lib.hid va; have HVB := Lib.hid vb
    clear OP hc
    go_wp2_with (fail)
    refine (combine_any w5 (.slice aa Da.nodes.length ca) (.slice ab Db.nodes.length cb) (.slice none 0 0) Da Db zeroDg _ _ _ HA5.out HB5.out (DgAt.zero _ _) a1 c1 .nil la lb (by simp) a2 c2 (by decide) a3 c3 (by decide) HOP5.out).mono ?_
    rintro e w6 ⟨r, t, rfl, hg, hM, hb6⟩
    obtain ⟨sa, sc, rfl⟩ := (hM NoB (fun b h => h.elim)).shape
    have hlen := (hM NoB (fun b h => h.elim)).brs.len
    have hl63 : t.canon.nodes.length ≤ 9223372036854775807 := by have := hlen.1; have := hlen.2.1; unfold maxLen at *; omega
    have HM := Lib.hid hM; have HG := Lib.hid hg; have HB6 := Lib.hid hb6
    clear hM hg hlen hb6
    go_wp2_with (fail)
    refine (limited_any w6 sa t.canon.nodes.length sc t.canon.root hl63).mono ?_
    rintro e w7 ⟨rfl, hb7⟩
    have K37 := heap_below (HB6.out.trans (hb7.mono HB6.out.size)) K3h.out
    have B7 : Hid (Below w.heap.size w w7) := (B5.out.trans (HB6.out.mono B5.out.size)).trans (hb7.mono (by have := B5.out.size; have := HB6.out.size; omega))
    have HB7 := Lib.hid hb7
    obtain ⟨s0, s1⟩ := box2 (r := 0) (S := .slice none 0 0) K37
    have sf := frozen_box K37
    have K37h := Lib.hid K37
    have FIN : Hid (∀ (c0 c1 : Value) (w8 : World), Below w.heap.size w w8 → Step (fun k => k = b0 + 3) w7 (fun k => k = b0 + 3) w8 → Gives w w8 (.returned (lim (.agg #[.slice sa t.canon.nodes.length sc, .int .i64 t.canon.root]) t.canon.nodes.length)) (err2 Da Db) (fun x => op (Da.tree.ev x) (Db.tree.ev x)) ∧ Below w.heap.size w w8) := by
      intro _ _ w8 hw8 hs8
      refine ⟨⟨fun h => absurd HC.out h, fun _ => ⟨_, t, HG.out.ok, fun x => HG.out.ev x, rfl, fun M hM => ?_⟩⟩, hw8⟩
      have hz := Z5.out
      have hbz := HB0.out
      have h1 := HM.out (fun k => M k ∨ k = b0 + 3) (fun b hb => by
        rcases hb with hb | hb
        · have := hM b hb; omega
        · omega)
      exact ((h1.below HB7.out).step (hs8.wide (fun k hk => .inr hk))).wide (fun k hk => .inl hk)
    clear hb7 K37 x0 x1 y0 y1 f0 r0 r1 rf
    by_cases hs : t.canon.nodes.length ≤ 4096
    · have hlim : lim (.agg #[.slice sa t.canon.nodes.length sc, .int .i64 t.canon.root]) t.canon.nodes.length = .tuple #[.agg #[.slice sa t.canon.nodes.length sc, .int .i64 t.canon.root], .int .i64 0] := by unfold lim; rw [if_pos hs]
      have HLIM := Lib.hid hlim
      rw [hlim]
      clear hlim hs
      go_wp2_with (fail)
      obtain ⟨w8, e8, P8, Q8, S8⟩ := put2 (w0 := w) (c0 := .slice sa t.canon.nodes.length sc) (c1 := .int .i64 t.canon.root) K37h.out B7.out (by have := HB0.out; omega)
      rw [e8]
      obtain ⟨u0, u1⟩ := box2 P8
      refine bodyPost_ret (v := .tuple #[.agg #[.slice sa t.canon.nodes.length sc, .int .i64 t.canon.root], .int .i64 0]) (by simp [results, Try.results60, go_sem, u0, u1]) rfl ?_
      rw [← HLIM.out]
      first | exact FIN.out (.bool true) (.bool true) w8 Q8 S8 | (rw [← HB0.out]; exact FIN.out (.bool true) (.bool true) w8 Q8 S8)
    · have hlim : lim (.agg #[.slice sa t.canon.nodes.length sc, .int .i64 t.canon.root]) t.canon.nodes.length = .tuple #[.agg dg0, .int .i64 2] := by unfold lim; rw [if_neg hs]
      have HLIM := Lib.hid hlim
      rw [hlim]
      clear hlim hs
      go_wp2_with (fail)
      obtain ⟨w8, e8, P8, Q8, S8⟩ := put2 (w0 := w) (c0 := .slice none 0 0) (c1 := .int .i64 0) K37h.out B7.out (by have := HB0.out; omega)
      rw [e8]
      obtain ⟨u0, u1⟩ := box2 P8
      refine bodyPost_ret (v := .tuple #[.agg dg0, .int .i64 2]) (by simp [results, Try.results60, go_sem, u0, u1]) rfl ?_
      rw [← HLIM.out]
      first | exact FIN.out (.bool true) (.bool true) w8 Q8 S8 | (rw [← HB0.out]; exact FIN.out (.bool true) (.bool true) w8 Q8 S8)
  · obtain ⟨c, hcq⟩ : ∃ c, err2 Da Db = c := ⟨_, rfl⟩
    rw [hcq] at hc ⊢
    have hne : (c != 0) = true := by simpa using hc
    have HC := Lib.hid hc; have HQ := Lib.hid hcq
    clear hcq hc
    go_wp2_with (fail)
    obtain ⟨w6, e6, P6, Q6, -⟩ := put2 (w0 := w) (c0 := .slice none 0 0) (c1 := .int .i64 0) K3h.out B5.out (by have := HB0.out; omega)
    rw [e6]
    obtain ⟨u0, u1⟩ := box2 P6
    refine bodyPost_ret (v := .tuple #[.agg dg0, .int .i64 c]) (by simp [results, Try.results60, go_sem, u0, u1]) rfl ?_
    exact ⟨⟨fun _ => by rw [HQ.out], fun h => absurd (HQ.out.symm.trans h) HC.out⟩, by first | exact Q6 | (rw [← HB0.out]; exact Q6)⟩

end Go.Proofs.Ytohmibmakelclaa
