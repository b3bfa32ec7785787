/-
  Counting the configurations of a tree.
  No condition.
-/
import Derived.Test.YtohmibmakelclaaPkA
import Derived.Test.YtohmibmakelclaaPkK
import Derived.Test.YtohmibmakelclaaPkI
import Derived.Test.YtohmibmakelclaaPkJ
import Derived.Laws.EntriesVeiled
import Derived.Laws.OwnMore
import Derived.Laws.Bits64b
namespace Go.Proofs.Ytohmibmakelclaa
set_option linter.unusedVariables false
set_option linter.unusedSimpArgs false

/-- The configurations of a tree over the conditions from its own one to n - 1. -/
def T.cn (n : Nat) : T → Nat
  | .leaf b => b.toNat
  | .node v l h => l.cn n * 2 ^ (min n l.lv - (v + 1)) + h.cn n * 2 ^ (min n h.lv - (v + 1))
/-- .. over the conditions from 0 to n - 1. -/
def T.count (n : Nat) (t : T) : Nat := t.cn n * 2 ^ min n t.lv
/-- The conditions of a tree are below n. -/
def T.bel (n : Nat) : T → Prop
  | .leaf _ => True
  | .node v l h => v < n ∧ l.bel n ∧ h.bel n

/-- The number of ways to set m conditions from j on so that f holds. -/
def cntF : Nat → Nat → ((Nat → Bool) → Bool) → (Nat → Bool) → Nat
  | 0, _, f, c => (f c).toNat
  | m + 1, j, f, c => cntF m (j + 1) f (upd c j false) + cntF m (j + 1) f (upd c j true)

theorem cntF_congr : ∀ (m j : Nat) (f g : (Nat → Bool) → Bool) (c : Nat → Bool), (∀ c', (∀ i, i < j → c' i = c i) → f c' = g c') → cntF m j f c = cntF m j g c
  | 0, j, f, g, c, h => by simp [cntF, h c (fun _ _ => rfl)]
  | m + 1, j, f, g, c, h => by
    simp only [cntF]
    rw [cntF_congr m (j + 1) f g _ (fun c' hc => h c' (fun i hi => by rw [hc i (by omega)]; simp [upd]; omega)),
      cntF_congr m (j + 1) f g _ (fun c' hc => h c' (fun i hi => by rw [hc i (by omega)]; simp [upd]; omega))]
theorem cntF_le : ∀ (m j : Nat) (f : (Nat → Bool) → Bool) (c : Nat → Bool), cntF m j f c ≤ 2 ^ m
  | 0, j, f, c => by simp only [cntF]; cases f c <;> simp
  | m + 1, j, f, c => by
    have h1 := cntF_le m (j + 1) f (upd c j false)
    have h2 := cntF_le m (j + 1) f (upd c j true)
    simp only [cntF, Nat.pow_succ]; omega
theorem cntF_not : ∀ (m j : Nat) (f : (Nat → Bool) → Bool) (c : Nat → Bool), cntF m j f c + cntF m j (fun x => !f x) c = 2 ^ m
  | 0, j, f, c => by simp only [cntF]; cases f c <;> simp
  | m + 1, j, f, c => by
    have h1 := cntF_not m (j + 1) f (upd c j false)
    have h2 := cntF_not m (j + 1) f (upd c j true)
    simp only [cntF, Nat.pow_succ]; omega
theorem cntF_or : ∀ (m j : Nat) (f g : (Nat → Bool) → Bool) (c : Nat → Bool), cntF m j (fun x => f x && g x) c + cntF m j (fun x => f x || g x) c = cntF m j f c + cntF m j g c
  | 0, j, f, g, c => by simp only [cntF]; cases f c <;> cases g c <;> simp
  | m + 1, j, f, g, c => by
    have h1 := cntF_or m (j + 1) f g (upd c j false)
    have h2 := cntF_or m (j + 1) f g (upd c j true)
    simp only [cntF]; omega
/-- One condition more, on which f does not depend. -/
theorem cntF_more : ∀ (m j : Nat) (f : (Nat → Bool) → Bool) (c : Nat → Bool), (∀ c b, f (upd c (j + m) b) = f c) → cntF (m + 1) j f c = 2 * cntF m j f c
  | 0, j, f, c, h => by
    simp only [cntF]
    have := fun b => h c b
    simp only [Nat.add_zero] at this
    rw [this, this]; omega
  | m + 1, j, f, c, h => by
    have h1 := cntF_more m (j + 1) f (upd c j false) (fun c b => by rw [show j + 1 + m = j + (m + 1) by omega]; exact h c b)
    have h2 := cntF_more m (j + 1) f (upd c j true) (fun c b => by rw [show j + 1 + m = j + (m + 1) by omega]; exact h c b)
    rw [cntF]
    rw [h1, h2]
    rw [show cntF (m + 1) j f c = cntF m (j + 1) f (upd c j false) + cntF m (j + 1) f (upd c j true) from rfl]
    omega

theorem T.bel_upd {n : Nat} {t : T} (h : t.bel n) (c : Nat → Bool) (k : Nat) (hk : n ≤ k) (b : Bool) : t.ev (upd c k b) = t.ev c := by
  induction t with
  | leaf b => rfl
  | node v l r ihl ihr =>
    obtain ⟨h1, h2, h3⟩ := h
    simp only [T.ev, ihl h2, ihr h3]
    have : upd c k b v = c v := by unfold upd; rw [if_neg (by omega)]
    rw [this]

/-- What cn counts. -/
theorem T.cn_eq (n : Nat) : ∀ (m j : Nat) (t : T) (c : Nat → Bool), j + m = n → t.Ok → t.bel n → j ≤ t.lv → n ≤ 64 → cntF m j t.ev c = t.cn n * 2 ^ (min n t.lv - j)
  | 0, j, t, c, hn, ok, hb, hj, h64 => by
    cases t with
    | leaf b =>
      simp only [cntF, T.ev, T.cn, T.lv]
      rw [show min n 64 - j = 0 by omega]; simp
    | node v l h => exact absurd hb.1 (by simp only [T.lv] at hj; omega)
  | m + 1, j, t, c, hn, ok, hb, hj, h64 => by
    simp only [cntF]
    rcases Nat.lt_or_ge j t.lv with h | h
    · rw [T.cn_eq n m (j + 1) t _ (by omega) ok hb h h64, T.cn_eq n m (j + 1) t _ (by omega) ok hb h h64]
      obtain ⟨k, hk⟩ : ∃ k, min n t.lv - j = k + 1 := ⟨min n t.lv - j - 1, by omega⟩
      rw [hk, show min n t.lv - (j + 1) = k by omega, Nat.pow_succ, ← Nat.mul_assoc, Nat.mul_two]
    · cases t with
      | leaf b => simp only [T.lv] at h; omega
      | node v l r =>
        simp only [T.lv] at h hj
        obtain rfl : j = v := by omega
        obtain ⟨h0, h1, h2, h3, h4, h5⟩ := ok
        have e0 : cntF m (j + 1) (T.node j l r).ev (upd c j false) = cntF m (j + 1) l.ev (upd c j false) := cntF_congr _ _ _ _ _ (fun c' hc => by
          have := hc j (by omega)
          simp only [T.ev]
          rw [this]; simp [upd])
        have e1 : cntF m (j + 1) (T.node j l r).ev (upd c j true) = cntF m (j + 1) r.ev (upd c j true) := cntF_congr _ _ _ _ _ (fun c' hc => by
          have := hc j (by omega)
          simp only [T.ev]
          rw [this]; simp [upd])
        rw [e0, e1, T.cn_eq n m (j + 1) l _ (by omega) h4 hb.2.1 (by omega) h64, T.cn_eq n m (j + 1) r _ (by omega) h5 hb.2.2 (by omega) h64]
        simp only [T.cn, T.lv]
        rw [show min n j - j = 0 by omega]; simp

theorem T.count_eq {n : Nat} {t : T} (ok : t.Ok) (hb : t.bel n) (h64 : n ≤ 64) : t.count n = cntF n 0 t.ev (fun _ => false) := by
  rw [T.cn_eq n n 0 t _ (by omega) ok hb (Nat.zero_le _) h64]; simp [T.count]
theorem T.cn_le {n : Nat} {t : T} (ok : t.Ok) (hb : t.bel n) (h64 : n ≤ 64) (j : Nat) (hj : j ≤ t.lv) : t.cn n * 2 ^ (min n t.lv - j) ≤ 2 ^ 64 := by
  rcases Nat.lt_or_ge n j with h | h
  · have hn := T.cn_eq n 0 n t (fun _ => false) (by omega) ok hb (by omega) h64
    rw [show min n t.lv - n = min n t.lv - j by omega] at hn
    rw [← hn]
    exact Nat.le_trans (cntF_le _ _ _ _) (by decide)
  · rw [← T.cn_eq n (n - j) j t (fun _ => false) (by omega) ok hb hj h64]
    exact Nat.le_trans (cntF_le _ _ _ _) (Nat.pow_le_pow_right (by omega) (by omega))

/-- The trees of a table, if its conditions are below n. -/
theorem tr_bel {ns : List Br} (hw : Wf ns) {n : Nat} (hn : ∀ b ∈ ns, b.v < n) : ∀ k, k < ns.length + 2 → (tr ns k).bel n := by
  intro k
  induction k using Nat.strongRecOn with
  | ind k ih =>
    intro hk
    rcases Nat.lt_or_ge k 2 with h2 | h2
    · have : k = 0 ∨ k = 1 := by omega
      rcases this with rfl | rfl
      · rw [tr_zero]; trivial
      · rw [tr_one]; trivial
    · obtain ⟨b, hb, e, l1, l2, p1, p2, p3, -⟩ := (hw.stands hk).2.2 h2
      rw [e]
      have := hn b (List.mem_of_getElem? hb)
      exact ⟨by omega, ih _ l1 (by omega), ih _ l2 (by omega)⟩

end Go.Proofs.Ytohmibmakelclaa

namespace Go.Proofs.Ytohmibmakelclaa
set_option linter.unusedVariables false
set_option linter.unusedSimpArgs false
open Go.RowKit

theorem min2 (n l : Int) : (if l < n then l else n) = min n l := by split <;> omega

set_option maxRecDepth 100000 in
set_option maxHeartbeats 400000 in
theorem place_any (w : World) (b0 : Nat) (S : Value) (D : Dg) (n : Int) (x : Nat) (hx : x < D.nodes.length + 2) (k0 : w.heap[b0]? = some (.cells #[S, .int .i64 D.root] 28 (0, 0))) (k1 : w.heap[b0 + 1]? = some (.cells #[.int .i64 n] 3 (0, 0))) (ha : DgAt w NoB (.agg #[S, .int .i64 D.root]) D) :
    Calls Try.prog 72 #[.int .i64 (x : Int), .pointer (some ⟨b0 + 1, 0, none⟩), .pointer (some ⟨b0, 0, none⟩)] w fun e w' => e = .returned (.int .i64 (min n (level D.nodes x))) ∧ Below w.heap.size w w' := by
  obtain ⟨a, c, hS⟩ := ha.shape
  obtain rfl : S = .slice a D.nodes.length c := by simpa using hS
  obtain ⟨L, hL⟩ : ∃ L, level D.nodes (x : Int) = L := ⟨_, rfl⟩
  obtain ⟨x0, x1⟩ := box2 k0
  have c1 := cell1_of k1
  have HA := Lib.hid (ha.below (Below.refl _ w).drew)
  have HX := Lib.hid hx; have HL := Lib.hid hL; have K0 := Lib.hid k0; have K1 := Lib.hid k1
  rw [hL, ← min2]
  clear hS ha hx hL k0 k1
  go_enter Try.func72, Try.ntmps72
  go_wp2_with (fail)
  rcases (Classical.em (L < n)) with hln | hln
  · have hi : (if L < n then L else n) = L := if_pos hln
    have HI := Lib.hid hi
    clear hi
    refine wp_region_held_drew (S := fun w' => w'.cell? ⟨b0, 0, none⟩ = some (.slice a D.nodes.length c) ∧ w'.cell? ⟨b0, 1, none⟩ = some (.int .i64 D.root) ∧ w'.cell? ⟨b0 + 1, 0, none⟩ = some (.int .i64 n)) (by kernel_rfl) (⟨x0, x1, c1⟩) (fun hS => ?_)
    refine wpAnyH_take (i := 0) (v := .int .i64 n) rfl (by kernel_rfl) (by kernel_rfl) (by kernel_rfl) (fun _ _ _ h => h) (Or.inl ⟨by rfl, ?_⟩) hS ?_
    · intro w hSw
      go_split_ands
      go_simp
    try simp only [Act.put, List.getElem_toArray, List.getElem_cons_zero, List.getElem_cons_succ, List.setIfInBounds_toArray, List.set_cons_zero, List.set_cons_succ]
    refine wpAnyH_take (i := 1) (v := .agg #[.slice a D.nodes.length c, .int .i64 D.root]) rfl (by kernel_rfl) (by kernel_rfl) (by kernel_rfl) (fun _ _ _ h => h) (Or.inl ⟨by rfl, ?_⟩) hS ?_
    · intro w hSw
      go_split_ands
      go_simp
    try simp only [Act.put, List.getElem_toArray, List.getElem_cons_zero, List.getElem_cons_succ, List.setIfInBounds_toArray, List.set_cons_zero, List.set_cons_succ]
    refine wpAnyH_take (i := 2) (v := .int .i64 (x : Int)) rfl (by kernel_rfl) (by kernel_rfl) (by kernel_rfl) (fun _ _ _ h => h) (Or.inl ⟨by rfl, ?_⟩) hS ?_
    · intro w hSw
      go_split_ands
      go_simp
    try simp only [Act.put, List.getElem_toArray, List.getElem_cons_zero, List.getElem_cons_succ, List.setIfInBounds_toArray, List.set_cons_zero, List.set_cons_succ]
    refine wpAnyH_ready (rs := [3]) (by kernel_rfl) (by simp) ?_
    refine AllReadyH.cons rfl (fun K hK => ?_) AllReadyH.nil
    try simp only [Act.put, List.getElem_toArray, List.getElem_cons_zero, List.getElem_cons_succ, List.setIfInBounds_toArray, List.set_cons_zero, List.set_cons_succ]
    go_simp
    refine (level_any w.drew (.agg #[.slice a D.nodes.length c, .int .i64 D.root]) D HA.out (x : Int) (by have := HX.out; omega)).mono ?_
    rintro e w1 ⟨rfl, hb1⟩
    rw [HL.out]
    have HB1 := Lib.hid hb1
    obtain ⟨y0, y1⟩ := box2 (heap_below hb1 (show w.drew.heap[b0]? = _ from K0.out))
    have d1 := cell1_of (heap_below hb1 (show w.drew.heap[b0 + 1]? = _ from K1.out))
    clear hb1 x0 x1 c1
    refine hK.out _ _ (⟨y0, y1, d1⟩) (fun hS => ?_)
    clear hK K
    try simp only [Act.put, List.getElem_toArray, List.getElem_cons_zero, List.getElem_cons_succ, List.setIfInBounds_toArray, List.set_cons_zero, List.set_cons_succ]
    refine wpAnyH_take (i := 4) (v := .int .i64 L) rfl (by kernel_rfl) (by kernel_rfl) (by kernel_rfl) (fun _ _ _ h => h) (Or.inl ⟨by rfl, ?_⟩) hS ?_
    · intro w hSw
      go_split_ands
      go_simp
    try simp only [Act.put, List.getElem_toArray, List.getElem_cons_zero, List.getElem_cons_succ, List.setIfInBounds_toArray, List.set_cons_zero, List.set_cons_succ]
    refine wpAnyH_ready (rs := [5]) (by kernel_rfl) (by simp) ?_
    refine AllReadyH.cons rfl (fun K hK => ?_) AllReadyH.nil
    try simp only [Act.put, List.getElem_toArray, List.getElem_cons_zero, List.getElem_cons_succ, List.setIfInBounds_toArray, List.set_cons_zero, List.set_cons_succ]
    go_simp
    refine hK.out _ _ (⟨y0, y1, d1⟩) (fun hS => ?_)
    clear hK K
    try simp only [Act.put, List.getElem_toArray, List.getElem_cons_zero, List.getElem_cons_succ, List.setIfInBounds_toArray, List.set_cons_zero, List.set_cons_succ]
    refine wpAnyH_done (by kernel_rfl) ?_ _
    try simp only [Act.put, List.getElem_toArray, List.getElem_cons_zero, List.getElem_cons_succ, List.setIfInBounds_toArray, List.set_cons_zero, List.set_cons_succ]
    clear hS
    go_wp2_with (fail)
    go_ret
    exact ⟨rfl, (Below.refl _ w).drew.trans HB1.out⟩
  · have hnl := hln
    have hi : (if L < n then L else n) = n := if_neg hnl
    have HI := Lib.hid hi
    clear hi
    refine wp_region_held_drew (S := fun w' => w'.cell? ⟨b0, 0, none⟩ = some (.slice a D.nodes.length c) ∧ w'.cell? ⟨b0, 1, none⟩ = some (.int .i64 D.root) ∧ w'.cell? ⟨b0 + 1, 0, none⟩ = some (.int .i64 n)) (by kernel_rfl) (⟨x0, x1, c1⟩) (fun hS => ?_)
    refine wpAnyH_take (i := 0) (v := .int .i64 n) rfl (by kernel_rfl) (by kernel_rfl) (by kernel_rfl) (fun _ _ _ h => h) (Or.inl ⟨by rfl, ?_⟩) hS ?_
    · intro w hSw
      go_split_ands
      go_simp
    try simp only [Act.put, List.getElem_toArray, List.getElem_cons_zero, List.getElem_cons_succ, List.setIfInBounds_toArray, List.set_cons_zero, List.set_cons_succ]
    refine wpAnyH_take (i := 1) (v := .agg #[.slice a D.nodes.length c, .int .i64 D.root]) rfl (by kernel_rfl) (by kernel_rfl) (by kernel_rfl) (fun _ _ _ h => h) (Or.inl ⟨by rfl, ?_⟩) hS ?_
    · intro w hSw
      go_split_ands
      go_simp
    try simp only [Act.put, List.getElem_toArray, List.getElem_cons_zero, List.getElem_cons_succ, List.setIfInBounds_toArray, List.set_cons_zero, List.set_cons_succ]
    refine wpAnyH_take (i := 2) (v := .int .i64 (x : Int)) rfl (by kernel_rfl) (by kernel_rfl) (by kernel_rfl) (fun _ _ _ h => h) (Or.inl ⟨by rfl, ?_⟩) hS ?_
    · intro w hSw
      go_split_ands
      go_simp
    try simp only [Act.put, List.getElem_toArray, List.getElem_cons_zero, List.getElem_cons_succ, List.setIfInBounds_toArray, List.set_cons_zero, List.set_cons_succ]
    refine wpAnyH_ready (rs := [3]) (by kernel_rfl) (by simp) ?_
    refine AllReadyH.cons rfl (fun K hK => ?_) AllReadyH.nil
    try simp only [Act.put, List.getElem_toArray, List.getElem_cons_zero, List.getElem_cons_succ, List.setIfInBounds_toArray, List.set_cons_zero, List.set_cons_succ]
    go_simp
    refine (level_any w.drew (.agg #[.slice a D.nodes.length c, .int .i64 D.root]) D HA.out (x : Int) (by have := HX.out; omega)).mono ?_
    rintro e w1 ⟨rfl, hb1⟩
    rw [HL.out]
    have HB1 := Lib.hid hb1
    obtain ⟨y0, y1⟩ := box2 (heap_below hb1 (show w.drew.heap[b0]? = _ from K0.out))
    have d1 := cell1_of (heap_below hb1 (show w.drew.heap[b0 + 1]? = _ from K1.out))
    clear hb1 x0 x1 c1
    refine hK.out _ _ (⟨y0, y1, d1⟩) (fun hS => ?_)
    clear hK K
    try simp only [Act.put, List.getElem_toArray, List.getElem_cons_zero, List.getElem_cons_succ, List.setIfInBounds_toArray, List.set_cons_zero, List.set_cons_succ]
    refine wpAnyH_take (i := 4) (v := .int .i64 n) rfl (by kernel_rfl) (by kernel_rfl) (by kernel_rfl) (fun _ _ _ h => h) (Or.inl ⟨by rfl, ?_⟩) hS ?_
    · intro w hSw
      go_split_ands
      go_simp
    try simp only [Act.put, List.getElem_toArray, List.getElem_cons_zero, List.getElem_cons_succ, List.setIfInBounds_toArray, List.set_cons_zero, List.set_cons_succ]
    refine wpAnyH_ready (rs := [5]) (by kernel_rfl) (by simp) ?_
    refine AllReadyH.cons rfl (fun K hK => ?_) AllReadyH.nil
    try simp only [Act.put, List.getElem_toArray, List.getElem_cons_zero, List.getElem_cons_succ, List.setIfInBounds_toArray, List.set_cons_zero, List.set_cons_succ]
    go_simp
    refine hK.out _ _ (⟨y0, y1, d1⟩) (fun hS => ?_)
    clear hK K
    try simp only [Act.put, List.getElem_toArray, List.getElem_cons_zero, List.getElem_cons_succ, List.setIfInBounds_toArray, List.set_cons_zero, List.set_cons_succ]
    refine wpAnyH_done (by kernel_rfl) ?_ _
    try simp only [Act.put, List.getElem_toArray, List.getElem_cons_zero, List.getElem_cons_succ, List.setIfInBounds_toArray, List.set_cons_zero, List.set_cons_succ]
    clear hS
    go_wp2_with (fail)
    go_ret
    exact ⟨rfl, (Below.refl _ w).drew.trans HB1.out⟩

/-- The value that holds place. -/
abbrev placeFn (b0 : Nat) : Value := .func (.func 72) #[] #[.pointer (some ⟨b0 + 1, 0, none⟩), .pointer (some ⟨b0, 0, none⟩)]

set_option maxRecDepth 100000 in
set_option maxHeartbeats 1000000 in
theorem doubled_any (w : World) (b0 pc bc pp : Nat) (S : Value) (D : Dg) (n : Int) (x : Nat) (hx : x < D.nodes.length + 2) (k0 : w.heap[b0]? = some (.cells #[S, .int .i64 D.root] 28 (0, 0))) (k1 : w.heap[b0 + 1]? = some (.cells #[.int .i64 n] 3 (0, 0))) (ha : DgAt w NoB (.agg #[S, .int .i64 D.root]) D)
    (q : Nat) (hq : D.nodes.length + 2 = q) (hc : w.cell? ⟨pc, 0, none⟩ = some (.slice (some ⟨bc, 0, none⟩) q q)) (hp : w.cell? ⟨pp, 0, none⟩ = some (placeFn b0)) (vx : Value) (hvx : w.cell? ⟨bc, x, none⟩ = some vx) (c : Nat) (M0 : Nat → Prop) (hM0 : ∀ b, M0 b → b < w.heap.size) (hN : NatAt w M0 vx c) (fr kk : Nat) (hkk : min n (level D.nodes x) - (fr : Int) = (kk : Int)) (hbig : c * 2 ^ kk < 1208925819614629174706176) (hk64 : kk ≤ 64) :
    Calls Try.prog 73 #[.int .i64 (x : Int), .int .i64 (fr : Int), .pointer (some ⟨pc, 0, none⟩), .pointer (some ⟨pp, 0, none⟩)] w fun e w' => ∃ r, e = .returned (.tuple #[r, .int .i64 0]) ∧ NatAt w' M0 r (c * 2 ^ kk) ∧ Below w.heap.size w w' := by
  obtain ⟨av, cv, hav⟩ := hN.shape
  have HN := Lib.hid hN; have HX := Lib.hid hx; have K0 := Lib.hid k0; have K1 := Lib.hid k1; have HA := Lib.hid ha; have HBIG := Lib.hid hbig; have HK := Lib.hid hkk; have HM := Lib.hid hM0
  have hx0 : (0 : Int) ≤ (x : Int) := by omega
  have hx1 : (x : Int) < (q : Int) := by omega
  have hcf := (by go_simp : ∀ (args : Array Value) (w : World), (callFunc 72 args).run Try.prog w = .ok (.enter 72 args) w)
  clear hN hx k0 k1 ha hbig hkk hM0
  subst hav
  go_enter Try.func73, Try.ntmps73
  go_wp2_with (fail)
  refine (place_any w b0 S D n x HX.out K0.out K1.out HA.out).mono ?_
  rintro e w1 ⟨rfl, hb1⟩
  obtain ⟨pl, hpl⟩ : ∃ pl, min n (level D.nodes (x : Int)) = pl := ⟨_, rfl⟩
  rw [hpl]
  have hkk : pl - (fr : Int) = (kk : Int) := by rw [← hpl]; exact HK.out
  have HB1 := Lib.hid hb1
  have I0 : Hid (NatAt w1 M0 (.slice av (limbs c).length cv) (c * 2 ^ 0)) := by show NatAt _ _ _ _; rw [Nat.pow_zero, Nat.mul_one]; exact HN.out.below hb1
  clear hb1 hpl hc hp hvx hcf
  go_wp2_with (fail)
  go_loopw [8, 20] (fun r i wr => ∃ (j : Nat) (ar : Option Addr) (nr cr : Nat), j ≤ kk ∧ r = .slice ar nr cr ∧ i = .int .i64 j ∧ Hid (NatAt wr M0 (.slice ar nr cr) (c * 2 ^ j)) ∧ Hid (Below w.heap.size w wr)) (fun _ i _ => kk - (intOf i).toNat)
  case atStart => exact ⟨0, _, _, _, Nat.zero_le _, rfl, rfl, I0, HB1⟩
  case round =>
    clear I0 HB1
    obtain ⟨j, ar, nr, cr, hj, rfl, rfl, IN, BR⟩ := hrel
    by_cases hlt : j < kk
    · have hle : c * 2 ^ (j + 1) ≤ c * 2 ^ kk := Nat.mul_le_mul_left _ (Nat.pow_le_pow_right (by omega) (by omega))
      have h2 : c * 2 ^ j + c * 2 ^ j = c * 2 ^ (j + 1) := by rw [Nat.pow_succ, ← Nat.mul_assoc, Nat.mul_two]
      have hbig := HBIG.out
      have l1 : (limbs (c * 2 ^ j)).length ≤ 3 := limbs_len 3 _ (by omega)
      have l2 : (limbs (c * 2 ^ j + c * 2 ^ j)).length ≤ 3 := limbs_len 3 _ (by omega)
      have HN0 : Hid (NatAt wr NoB (.slice ar nr cr) (c * 2 ^ j)) := IN.out.wide (fun k h => h.elim)
      have A := add_nat wr (.slice ar nr cr) (.slice ar nr cr) _ _ HN0.out HN0.out (by omega) (by omega) (by omega)
      rw [h2] at A
      have HADD := Lib.hid A
      have hj1 : (j : Int) < (kk : Int) := by omega
      clear A l1 l2 h2 hle hbig
      go_wp2_with (fail)
      refine HADD.out.mono ?_
      rintro e w2 ⟨r, rfl, hr, hb2⟩
      obtain ⟨ar', cr', rfl⟩ := (hr NoB (fun b h => h.elim)).shape
      have IN2 : Hid (NatAt w2 M0 (.slice ar' (limbs (c * 2 ^ (j + 1))).length cr') (c * 2 ^ (j + 1))) := hr M0 (fun b hb => Nat.lt_of_lt_of_le (HM.out b hb) BR.out.size)
      have BR2 : Hid (Below w.heap.size w w2) := BR.out.trans (hb2.mono BR.out.size)
      clear hr hb2
      go_wp2_with (fail)
      go_roundw
      case rel => exact ⟨j + 1, _, _, _, by omega, rfl, by go_num, IN2, BR2⟩
      case measure => simp [intOf]; omega
    · obtain rfl : j = kk := by omega
      go_wp2_with (fail)
      go_ret2
      exact ⟨_, rfl, IN.out, BR.out⟩

end Go.Proofs.Ytohmibmakelclaa

namespace Go.Proofs.Ytohmibmakelclaa
set_option linter.unusedVariables false
set_option linter.unusedSimpArgs false
open Go.RowKit

theorem infonat : (Try.prog.info? 49).map (fun i => (i.zero, i.size, i.bytes)) = some (some (.slice none 0 0), 1, 24) := by kernel_rfl

/-- The error of a count. -/
noncomputable def errC (D : Dg) (n : Int) : Int := if code D = 0 then (if n < 0 ∨ 64 < n then 1 else if ∃ b ∈ D.nodes, n ≤ b.v then 1 else 0) else code D
theorem errC_bad {D : Dg} {n : Int} (h : ¬ code D = 0) : errC D n = code D := by unfold errC; rw [if_neg h]
theorem errC_arg {D : Dg} {n : Int} (h : code D = 0) (h1 : n < 0 ∨ 64 < n) : errC D n = 1 := by unfold errC; rw [if_pos h, if_pos h1]
theorem errC_var {D : Dg} {n : Int} (h : code D = 0) (h1 : ¬ (n < 0 ∨ 64 < n)) (h2 : ∃ b ∈ D.nodes, n ≤ b.v) : errC D n = 1 := by unfold errC; rw [if_pos h, if_neg h1, if_pos h2]
theorem errC_zero {D : Dg} {n : Int} (h : code D = 0) (h1 : ¬ (n < 0 ∨ 64 < n)) (h2 : ¬ ∃ b ∈ D.nodes, n ≤ b.v) : errC D n = 0 := by unfold errC; rw [if_pos h, if_neg h1, if_neg h2]

/-- What Count hands back. -/
def Counts (w w' : World) (e : Ending) (c : Int) (k : Nat) : Prop :=
  (c ≠ 0 → e = .returned (.tuple #[.slice none 0 0, .int .i64 c])) ∧ (c = 0 → ∃ r, e = .returned (.tuple #[r, .int .i64 0]) ∧ ∀ M : Nat → Prop, (∀ b, M b → b < w.heap.size) → NatAt w' M r k)

/-- What the second loop keeps, behind j branches. -/
structure CtInv (w0 w : World) (b0 c0 pf : Nat) (D : Dg) (S : Value) (n : Nat) (j : Nat) (vs : List Value) : Prop where
  k0 : w.heap[b0]? = some (.cells #[S, .int .i64 D.root] 28 (0, 0))
  k1 : w.heap[b0 + 1]? = some (.cells #[.int .i64 (n : Int)] 3 (0, 0))
  kb : w.heap[c0]? = some (.cells vs.toArray 49 (0, 0))
  kc : w.heap[c0 + 1]? = some (.cells #[.slice (some ⟨c0, 0, none⟩) (D.nodes.length + 2) (D.nodes.length + 2)] 92 (0, 0))
  kp : w.heap[pf]? = some (.cells #[placeFn b0] 93 (0, 0))
  ln : vs.length = D.nodes.length + 2
  ok : ∀ k, k < j + 2 → ∃ v, vs[k]? = some v ∧ NatAt w (fun k => k < c0 + 2) v ((tr D.nodes k).cn n)
  bel : Below w0.heap.size w0 w

section
variable {w0 w : World} {b0 c0 pf : Nat} {D : Dg} {S : Value} {n j : Nat} {vs : List Value}

theorem CtInv.below (h : CtInv w0 w b0 c0 pf D S n j vs) {w' : World} (hb : Below w.heap.size w w') : CtInv w0 w' b0 c0 pf D S n j vs :=
  ⟨heap_below hb h.k0, heap_below hb h.k1, heap_below hb h.kb, heap_below hb h.kc, heap_below hb h.kp, h.ln, fun k hk => by
    obtain ⟨v, h1, h2⟩ := h.ok k hk
    exact ⟨v, h1, h2.below hb⟩, h.bel.trans (hb.mono h.bel.size)⟩

/-- One count more. -/
theorem CtInv.next (h : CtInv w0 w b0 c0 pf D S n j vs) (h0 : w0.heap.size ≤ b0) (h1 : b0 + 2 ≤ c0) (h2 : c0 + 2 ≤ pf) (hj : j < D.nodes.length) (v : Value) (hv : NatAt w (fun k => k < c0 + 2) v ((tr D.nodes (j + 2)).cn n)) :
    CtInv w0 (w.setCell ⟨c0, j + 2, none⟩ v) b0 c0 pf D S n (j + 1) (vs.set (j + 2) v) := by
  have hs : Step (fun k => k < c0 + 2) w (fun k => k < c0 + 2) (w.setCell ⟨c0, j + 2, none⟩ v) := (Step.refl _ w).setCell (p := ⟨c0, j + 2, none⟩) (.inl (by show c0 < c0 + 2; omega)) v
  have ot : ∀ k, k ≠ c0 → (w.setCell ⟨c0, j + 2, none⟩ v).heap[k]? = w.heap[k]? := fun k hk => heap_setCell_other w ⟨c0, j + 2, none⟩ k _ hk
  refine ⟨(ot _ (by omega)).trans h.k0, (ot _ (by omega)).trans h.k1, ?_, (ot _ (by omega)).trans h.kc, (ot _ (by omega)).trans h.kp, by simp [h.ln], ?_, h.bel.setCell (by show _ ≤ c0; omega) _⟩
  · rw [heap_setCell_same w c0 (j + 2) _ _ _ h.kb, List.setIfInBounds_toArray]
  · intro k hk
    by_cases e : k = j + 2
    · subst e
      exact ⟨v, by rw [List.getElem?_set_self (by rw [h.ln]; omega)], hv.step hs⟩
    · obtain ⟨u, g1, g2⟩ := h.ok k (by omega)
      exact ⟨u, by rw [List.getElem?_set_ne (by omega)]; exact g1, g2.step hs⟩
end

set_option maxRecDepth 100000 in
set_option maxHeartbeats 4000000 in
theorem count_any (w : World) (va : Value) (Da : Dg) (ha : DgAt w NoB va Da) (n : Int) :
    Calls Try.prog 28 #[va, .int .i64 n] w fun e w' => Counts w w' e (errC Da n) (Da.tree.count n.toNat) ∧ Below w.heap.size w w' := by
  obtain ⟨aa, ca, rfl⟩ := ha.shape
  obtain ⟨w0, b0, e0, hb0, z0, h0, B0⟩ := laid w #[.slice aa Da.nodes.length ca, .int .i64 Da.root] 28
  obtain ⟨w3, b3, e3, hb3, z3, h3, B3⟩ := laid w0 #[.int .i64 n] 3
  obtain rfl : b3 = b0 + 1 := by omega
  replace z3 : w3.heap.size = b0 + 2 := by omega
  clear hb3
  have BW : Hid (Below w.heap.size w w3) := B0.trans (B3.mono B0.size)
  have K0 := Lib.hid (heap_below B3 h0)
  obtain ⟨x0, x1⟩ := box2 K0.out
  have n0 := cell1_of h3
  have K3 := Lib.hid h3; have Z3 := Lib.hid z3; have HB0 := Lib.hid hb0
  have HA := Lib.hid (ha.below BW.out); have HA0 := Lib.hid ha
  clear h0 h3 B0 B3 ha
  go_enter Try.func28, Try.ntmps28
  go_wp2_with (fail)
  refine (check_any w3 _ Da HA.out).mono ?_
  rintro e w5 ⟨rfl, hb5⟩
  have B5 : Hid (Below w.heap.size w w5) := BW.out.trans (hb5.mono BW.out.size)
  have K05 := Lib.hid (heap_below hb5 K0.out); have K35 := Lib.hid (heap_below hb5 K3.out)
  have HA5 := Lib.hid (HA.out.below hb5)
  have Z5 : Hid (b0 + 2 ≤ w5.heap.size) := by show _ ≤ _; have := hb5.size; have := Z3.out; omega
  clear hb5 x0 x1 n0 e0 e3 z0 z3
  obtain ⟨x0, x1⟩ := box2 K05.out
  have n0 := cell1_of K35.out
  by_cases hc : code Da = 0
  · by_cases hv : n < 0 ∨ 64 < n
    · have HE := Lib.hid (errC_arg hc hv)
      rw [hc]
      have hcase : n < 0 ∨ (0 ≤ n ∧ 64 < n) := by omega
      clear hv hc
      rcases hcase with h1 | ⟨h1, h2⟩
      all_goals
        go_wp2_with (fail)
        go_ret2
        exact ⟨⟨fun _ => by rw [HE.out]; rfl, fun h => absurd (HE.out.symm.trans h) (by decide)⟩, B5.out⟩
    · have HC := Lib.hid hc; have HV := Lib.hid hv
      obtain ⟨hl, hva⟩ := code_zero hc
      obtain ⟨a1, a2, a3, -⟩ := (valid_iff Da).1 hva
      have HW := Lib.hid a1; have HVA := Lib.hid hva
      obtain ⟨m, hm⟩ : ∃ m : Nat, n = (m : Int) := ⟨n.toNat, by omega⟩
      subst hm
      have hm0 : (0 : Int) ≤ (m : Int) := by omega
      have hm1 : (m : Int) ≤ 64 := by omega
      rw [hc]
      clear hc hv hva a1
      have BWW : Hid (Below w5.heap.size w5 w5) := Below.refl _ _
      have NO : Hid (∀ b ∈ Da.nodes.take 0, b.v < (m : Int)) := by intro b hb; simp at hb
      go_wp2_with (fail)
      go_loopw [35] (fun i wr => ∃ j : Nat, j ≤ Da.nodes.length ∧ i = .int .i64 j ∧ Hid (∀ b ∈ Da.nodes.take j, b.v < (m : Int)) ∧ Hid (Below w5.heap.size w5 wr)) (fun i _ => Da.nodes.length - (intOf i).toNat)
      case atStart => exact ⟨0, Nat.zero_le _, rfl, NO, BWW⟩
      case round =>
        clear NO BWW x0 x1 n0
        obtain ⟨j, hj, rfl, NJ, BR⟩ := hrel
        obtain ⟨x0, x1⟩ := box2 (heap_below BR.out K05.out)
        by_cases hlt : j < Da.nodes.length
        · obtain ⟨b, off, rfl, -, -, c0, c1, c2⟩ := (HA5.out.below BR.out).brs.get j hlt
          obtain ⟨x, hxq⟩ : ∃ x, Da.nodes[j] = x := ⟨_, rfl⟩
          rw [hxq] at c0 c1 c2
          have HX := Lib.hid hxq
          obtain ⟨w2, bq, e2, hbq, hsz2, h2', hb2⟩ := laid wr (br3 x.v x.l x.h) 44
          obtain ⟨y0, y1, y2⟩ := box3 h2'
          have B2 : Hid (Below w5.heap.size w5 w2) := BR.out.trans (hb2.mono BR.out.size)
          have n0 := cell1_of (heap_below B2.out K35.out)
          have hj0 : (0 : Int) ≤ (j : Int) := by omega
          have hj1 : (j : Int) < (Da.nodes.length : Int) := by omega
          clear hxq h2' hb2
          by_cases hge : (m : Int) ≤ x.v
          · have HE := Lib.hid (errC_var HC.out HV.out ⟨x, by rw [← HX.out]; exact List.getElem_mem hlt, hge⟩)
            have BF : Hid (Below w.heap.size w w2) := B5.out.trans (B2.out.mono B5.out.size)
            go_wp2_with (with_reducible refine wpList_store_last rfl 44 (.tmp 8) (.tmp 38) rfl (br3 0 0 0) (br3 x.v x.l x.h) rfl rfl sizebr rfl (br3_one _ _ _) ?_)
            go_ret2
            exact ⟨⟨fun _ => by rw [HE.out]; rfl, fun h => absurd (HE.out.symm.trans h) (by decide)⟩, BF.out⟩
          · have NJ' : Hid (∀ b ∈ Da.nodes.take (j + 1), b.v < (m : Int)) := by
              intro b hb
              rw [List.take_succ_eq_append_getElem hlt, HX.out] at hb
              rcases List.mem_append.1 hb with hb | hb
              · exact NJ.out b hb
              · simp only [List.mem_singleton] at hb; subst hb; omega
            have hge' : x.v < (m : Int) := by omega
            clear hge
            go_wp2_with (with_reducible refine wpList_store_last rfl 44 (.tmp 8) (.tmp 38) rfl (br3 0 0 0) (br3 x.v x.l x.h) rfl rfl sizebr rfl (br3_one _ _ _) ?_)
            go_roundw
            case rel => exact ⟨j + 1, by omega, by go_num, NJ', B2⟩
            case measure => simp [intOf]; omega
        · obtain rfl : j = Da.nodes.length := by omega
          have HALL : Hid (∀ b ∈ Da.nodes, b.v < (m : Int)) := by have := NJ.out; rw [List.take_length] at this; exact this
          have HE := Lib.hid (errC_zero HC.out HV.out (by rintro ⟨b, hb, h⟩; have := HALL.out b hb; omega) : errC Da (m : Int) = 0)
          clear NJ
          obtain ⟨c0, hc0⟩ : ∃ c0, wr.heap.size = c0 := ⟨_, rfl⟩
          obtain ⟨ii, hii, iz0, iz1, iz2⟩ := info_parts infonat
          have hmk := run_makeSlice (P := Try.prog) (w := wr) 92 49 ii (.slice none 0 0) Try.underlying92 hii iz0 .i64 .i64 ((Da.nodes.length : Int) + 2) ((Da.nodes.length : Int) + 2) (by omega) (Int.le_refl _) (by rw [iz1]; omega) (by rw [iz2]; omega) (by omega)
          obtain ⟨q, hq⟩ : ∃ q, Da.nodes.length + 2 = q := ⟨_, rfl⟩
          rw [iz1, show ((Da.nodes.length : Int) + 2).toNat = q by omega] at hmk
          obtain ⟨w6, e6⟩ : ∃ w6, wr.alloc (.cells (madeCells (Value.slice none 0 0).cells (q * 1)) 49) = w6 := ⟨_, rfl⟩
          rw [e6, hc0] at hmk
          have h6 : w6.heap[c0]? = some (.cells (madeCells (Value.slice none 0 0).cells (q * 1)) 49 (0, 0)) := by rw [← e6, ← hc0]; exact heap_alloc_new wr _
          have hcells : madeCells (Value.slice none 0 0).cells (q * 1) = (List.replicate q (Value.slice none 0 0)).toArray := by
            apply Array.toList_inj.1
            rw [Nat.mul_one]
            exact toList_madeCells_one _ _
          rw [hcells] at h6
          have z6 : w6.heap.size = c0 + 1 := by rw [← e6, ← hc0]; simp
          have B6 : Below wr.heap.size wr w6 := by rw [← e6]; exact (Below.refl _ _).alloc (Nat.le_refl _) _
          obtain ⟨w7, b7, e7, hb7, z7, h7, B7⟩ := laid w6 #[.slice none 0 0] 92
          obtain rfl : b7 = c0 + 1 := by omega
          replace z7 : w7.heap.size = c0 + 2 := by omega
          clear hb7
          obtain ⟨w8, e8⟩ : ∃ w8, w7.setCell ⟨c0 + 1, 0, none⟩ (.slice (some ⟨c0, 0, none⟩) q q) = w8 := ⟨_, rfl⟩
          have h8 : w8.heap[c0 + 1]? = some (.cells #[.slice (some ⟨c0, 0, none⟩) q q] 92 (0, 0)) := by rw [← e8, heap_setCell_same w7 (c0 + 1) 0 _ _ _ h7]; rfl
          have z8 : w8.heap.size = c0 + 2 := by rw [← e8]; simpa [World.setCell] using z7
          have k8 : ∀ k, k ≠ c0 + 1 → w8.heap[k]? = w7.heap[k]? := fun k hk => by rw [← e8]; exact heap_setCell_other w7 ⟨c0 + 1, 0, none⟩ k _ hk
          have x7 := cell1_of h7
          have f7 := frozen_box h7 0
          have B68 : Below wr.heap.size wr w8 := by rw [← e8]; exact (B6.trans (B7.mono B6.size)).setCell (by show _ ≤ c0 + 1; omega) _
          have HB8 : Hid (w8.heap[c0]? = some (.cells (List.replicate q (Value.slice none 0 0)).toArray 49 (0, 0))) := (k8 c0 (by omega)).trans ((B7.block c0 (by omega)).trans h6)
          have HC8 := Lib.hid h8; have HZ8 := Lib.hid z8; have HQ := Lib.hid hq; have HBR8 : Hid (Below w5.heap.size w5 w8) := BR.out.trans (B68.mono BR.out.size)
          have HC0 : Hid (w5.heap.size ≤ c0) := by show _ ≤ _; have := BR.out.size; omega
          have HCB : Hid (b0 + 2 ≤ c0) := by show _ ≤ _; have := Z5.out; have := BR.out.size; omega
          have hq1 : (1 : Int) < (q : Int) := by omega
          clear h6 hcells B6 z7 h7 B7 h8 z8 k8 B68 hii iz0 iz1 iz2 hq
          go_wp2_with (fail)
          have HC8d : Hid (w8.drew.heap[c0 + 1]? = some (.cells #[.slice (some ⟨c0, 0, none⟩) q q] 92 (0, 0))) := HC8.out
          have HB8d : Hid (w8.drew.heap[c0]? = some (.cells (List.replicate q (Value.slice none 0 0)).toArray 49 (0, 0))) := HB8.out
          have HBR8d : Hid (Below w5.heap.size w5 w8.drew) := HBR8.out.drew
          clear x0 x1 x7 f7 e6 e7 e8 hmk z6 hc0
          refine wp_region_held_drew (S := fun w' => w'.cell? ⟨c0 + 1, 0, none⟩ = some (.slice (some ⟨c0, 0, none⟩) q q)) (by kernel_rfl) (cell1_of HC8d.out) (fun hS => ?_)
          refine wpAnyH_take (i := 0) (v := (.slice (some ⟨c0, 0, none⟩) q q)) rfl (by kernel_rfl) (by kernel_rfl) (by kernel_rfl) (fun _ _ _ h => h) (Or.inl ⟨by rfl, ?_⟩) hS ?_
          · intro w hSw
            go_split_ands
            go_simp
          try simp only [Act.put, List.getElem_toArray, List.getElem_cons_zero, List.getElem_cons_succ, List.setIfInBounds_toArray, List.set_cons_zero, List.set_cons_succ]
          refine wpAnyH_ready (rs := [1]) (by kernel_rfl) (by simp) ?_
          refine AllReadyH.cons rfl (fun K hK => ?_) AllReadyH.nil
          try simp only [Act.put, List.getElem_toArray, List.getElem_cons_zero, List.getElem_cons_succ, List.setIfInBounds_toArray, List.set_cons_zero, List.set_cons_succ]
          go_simp
          refine (of_nat w8.drew 1 (by omega)).mono ?_
          rintro e w9 ⟨r1, rfl, hr1, hb9⟩
          obtain ⟨ar, cr, rfl⟩ := (hr1 NoB (fun b h => h.elim)).shape
          have HC9 := Lib.hid (heap_below hb9 HC8d.out); have HB9 := Lib.hid (heap_below hb9 HB8d.out)
          have HR1 : Hid (NatAt w9 (fun k => k < c0 + 2) (.slice ar (limbs 1).length cr) 1) := hr1 _ (fun b hb => by show b < w8.heap.size; rw [HZ8.out]; exact hb)
          have HBR9 : Hid (Below w5.heap.size w5 w9) := HBR8d.out.trans (hb9.mono HBR8d.out.size)
          have HZ9 : Hid (c0 + 2 ≤ w9.heap.size) := by have h1 : w8.heap.size ≤ w9.heap.size := hb9.size; show c0 + 2 ≤ w9.heap.size; rw [← HZ8.out]; exact h1
          obtain ⟨n1, hn1⟩ : ∃ n1, (limbs 1).length = n1 := ⟨_, rfl⟩
          rw [hn1] at HR1
          rw [hn1]
          clear hr1 hb9 hn1
          refine hK.out _ _ (cell1_of HC9.out) (fun hS => ?_)
          clear hK K
          try simp only [Act.put, List.getElem_toArray, List.getElem_cons_zero, List.getElem_cons_succ, List.setIfInBounds_toArray, List.set_cons_zero, List.set_cons_succ]
          refine wpAnyH_take (i := 2) (v := .pointer (some ⟨c0, 1, none⟩)) rfl (by kernel_rfl) (by kernel_rfl) (by kernel_rfl) (fun _ _ _ h => h) (Or.inl ⟨by rfl, ?_⟩) hS ?_
          · intro w hSw
            go_split_ands
            go_simp
          try simp only [Act.put, List.getElem_toArray, List.getElem_cons_zero, List.getElem_cons_succ, List.setIfInBounds_toArray, List.set_cons_zero, List.set_cons_succ]
          refine wpAnyH_ready (rs := [3]) (by kernel_rfl) (by simp) ?_
          refine AllReadyH.cons rfl (fun K hK => ?_) AllReadyH.nil
          try simp only [Act.put, List.getElem_toArray, List.getElem_cons_zero, List.getElem_cons_succ, List.setIfInBounds_toArray, List.set_cons_zero, List.set_cons_succ]
          have y1 : w9.cell? ⟨c0, 1, none⟩ = some (.slice none 0 0) := by
            rw [cell_of_row w9 c0 1 _ _ _ HB9.out]
            have : 1 < q := by have := HQ.out; omega
            simp [List.getElem?_replicate, this]
          have yf := frozen_box HB9.out 1
          go_simp
          obtain ⟨w10, e10⟩ : ∃ w10, w9.setCell ⟨c0, 1, none⟩ (.slice ar n1 cr) = w10 := ⟨_, rfl⟩
          rw [e10]
          have k10 : ∀ k, k ≠ c0 → w10.heap[k]? = w9.heap[k]? := fun k hk => by rw [← e10]; exact heap_setCell_other w9 ⟨c0, 1, none⟩ k _ hk
          have HB10 : Hid (w10.heap[c0]? = some (.cells ((List.replicate q (Value.slice none 0 0)).set 1 (.slice ar n1 cr)).toArray 49 (0, 0))) := by
            show _ = _
            rw [← e10, heap_setCell_same w9 c0 1 _ _ _ HB9.out, List.setIfInBounds_toArray]
          have HC10 : Hid (w10.heap[c0 + 1]? = some (.cells #[.slice (some ⟨c0, 0, none⟩) q q] 92 (0, 0))) := (k10 _ (by omega)).trans HC9.out
          have HS10 : Step (fun k => k < c0 + 2) w9 (fun k => k < c0 + 2) w10 := by rw [← e10]; exact (Step.refl _ w9).setCell (p := ⟨c0, 1, none⟩) (.inl (by show c0 < c0 + 2; omega)) _
          have HR10 : Hid (NatAt w10 (fun k => k < c0 + 2) (.slice ar n1 cr) 1) := HR1.out.step HS10
          have HBR10 : Hid (Below w5.heap.size w5 w10) := by show Below _ _ _; rw [← e10]; exact HBR9.out.setCell (by show _ ≤ c0; exact HC0.out) _
          have HZ10 : Hid (c0 + 2 ≤ w10.heap.size) := Nat.le_trans HZ9.out HS10.size
          clear y1 yf e10 k10 HS10
          refine hK.out _ _ (cell1_of HC10.out) (fun hS => ?_)
          clear hK K
          try simp only [Act.put, List.getElem_toArray, List.getElem_cons_zero, List.getElem_cons_succ, List.setIfInBounds_toArray, List.set_cons_zero, List.set_cons_succ]
          refine wpAnyH_done (by kernel_rfl) ?_ _
          try simp only [Act.put, List.getElem_toArray, List.getElem_cons_zero, List.getElem_cons_succ, List.setIfInBounds_toArray, List.set_cons_zero, List.set_cons_succ]
          clear hS
          obtain ⟨w11, pf, e11, hpf, z11, h11, B11⟩ := laid w10 #[placeFn b0] 93
          have BR11 : Hid (Below w5.heap.size w5 w11) := HBR10.out.trans (B11.mono HBR10.out.size)
          have INV : Hid (∃ vs, CtInv w w11 b0 c0 pf Da (.slice aa Da.nodes.length ca) m 0 vs) := by
            have hql := HQ.out
            refine ⟨(List.replicate q (Value.slice none 0 0)).set 1 (.slice ar n1 cr), heap_below BR11.out K05.out, heap_below BR11.out K35.out, heap_below B11 HB10.out, ?_, h11, by simp; omega, ?_, B5.out.trans (BR11.out.mono B5.out.size)⟩
            · rw [hql]; exact heap_below B11 HC10.out
            · intro k hk
              have hk2 : k = 0 ∨ k = 1 := by omega
              rcases hk2 with rfl | rfl
              · refine ⟨.slice none 0 0, ?_, ?_⟩
                · rw [List.getElem?_set_ne (by omega)]; simp [List.getElem?_replicate]; omega
                · rw [tr_zero]; exact NatAt.zero _ _
              · refine ⟨.slice ar n1 cr, by rw [List.getElem?_set_self (by simp; omega)], ?_⟩
                rw [tr_one]; exact HR10.out.below B11
          have HPF : Hid (c0 + 2 ≤ pf) := by show _ ≤ _; have := HZ10.out; omega
          obtain ⟨x0, x1⟩ := box2 (heap_below BR11.out K05.out)
          clear B11 z11 HB10 HC10 HR10 HBR10 HZ10 HB9 HC9 HR1 HBR9 HZ9 HC8d HB8d HBR8d HB8 HC8 HZ8 HBR8
          have hcf := (by go_simp : ∀ (args : Array Value) (w : World), (callFunc 73 args).run Try.prog w = .ok (.enter 73 args) w)
          go_wp2_with (fail)
          clear x0 x1 e11 hpf h11 BR11
          go_loopw [57] (fun i wr => ∃ j : Nat, j ≤ Da.nodes.length ∧ i = .int .i64 j ∧ Hid (∃ vs, CtInv w wr b0 c0 pf Da (.slice aa Da.nodes.length ca) m j vs)) (fun i _ => Da.nodes.length - (intOf i).toNat)
          case atStart => exact ⟨0, Nat.zero_le _, rfl, INV⟩
          case round =>
            clear INV
            obtain ⟨j, hj2, rfl, IV⟩ := hrel
            obtain ⟨vs, hF⟩ := IV.out
            have h64 : m ≤ 64 := by omega
            by_cases hlt2 : j < Da.nodes.length
            · obtain ⟨b, off, rfl, -, -, d0, d1, d2⟩ := ((HA0.out.below hF.bel).brs).get j hlt2
              obtain ⟨okn, -, h3⟩ := HW.out.stands (n := j + 2) (by omega)
              obtain ⟨x, hx, e, l1, l2, p1, p2, p3, p4, p5, p6, p7⟩ := h3 (by omega)
              rw [show j + 2 - 2 = j by omega, List.getElem?_eq_getElem hlt2] at hx
              obtain rfl : Da.nodes[j] = x := by simpa using hx
              have hvm := HALL.out _ (List.getElem_mem hlt2)
              obtain ⟨x, hxq⟩ : ∃ x, Da.nodes[j] = x := ⟨_, rfl⟩
              rw [hxq] at d0 d1 d2 e l1 l2 p1 p2 p3 p4 p5 p6 p7 hvm
              obtain ⟨u, hu⟩ : ∃ u : Nat, x.v = (u : Int) := ⟨x.v.toNat, by omega⟩
              obtain ⟨l, hl'⟩ : ∃ l : Nat, x.l = (l : Int) := ⟨x.l.toNat, by omega⟩
              obtain ⟨r, hr'⟩ : ∃ r : Nat, x.h = (r : Int) := ⟨x.h.toNat, by omega⟩
              rw [hu] at d0 e p6 p7 hvm
              rw [hl'] at d1 e p6 l1
              rw [hr'] at d2 e p7 l2
              simp only [Int.toNat_natCast] at e l1 l2
              have hll : l < Da.nodes.length + 2 := by omega
              have hrl : r < Da.nodes.length + 2 := by omega
              rw [HW.out.lv hll] at p6
              rw [HW.out.lv hrl] at p7
              have hlv := HW.out.lv hll
              have hrv := HW.out.lv hrl
              have okl := (HW.out.stands hll).1
              have okr := (HW.out.stands hrl).1
              have ball := tr_bel HW.out HALL.out
              obtain ⟨kl, hkl⟩ : ∃ kl, min m (tr Da.nodes l).lv - (u + 1) = kl := ⟨_, rfl⟩
              obtain ⟨kr, hkr⟩ : ∃ kr, min m (tr Da.nodes r).lv - (u + 1) = kr := ⟨_, rfl⟩
              have bl := T.cn_le okl (ball l hll) h64 (u + 1) (by omega)
              have br := T.cn_le okr (ball r hrl) h64 (u + 1) (by omega)
              have bn := T.cn_le okn (ball (j + 2) (by omega)) h64 u (by rw [e]; exact Nat.le_refl _)
              have ecn : (tr Da.nodes (j + 2)).cn m = (tr Da.nodes l).cn m * 2 ^ kl + (tr Da.nodes r).cn m * 2 ^ kr := by rw [e, ← hkl, ← hkr]; rfl
              rw [show min m (tr Da.nodes (j + 2)).lv - u = 0 by rw [e]; show min m u - u = 0; omega, Nat.pow_zero, Nat.mul_one, ecn] at bn
              rw [hkl] at bl
              rw [hkr] at br
              obtain ⟨w12, bq, e12, hbq, hsz12, h12, hb12⟩ := laid wr (br3 (u : Int) (l : Int) (r : Int)) 44
              obtain ⟨y0, y1, y2⟩ := box3 h12
              have F12 := hF.below hb12
              obtain ⟨vl, gl, gln⟩ := F12.ok l (by omega)
              have hqDL := HQ.out
              have DL := doubled_any w12 b0 (c0 + 1) c0 pf _ Da (m : Int) l (by omega) F12.k0 F12.k1 (HA0.out.below F12.bel) q hqDL (by rw [← hqDL]; exact cell1_of F12.kc) (cell1_of F12.kp) vl (by rw [cell_of_row w12 c0 l _ _ _ F12.kb]; simpa using gl) _ (fun k => k < c0 + 2) (fun k hk => by have := F12.kc; rw [Array.getElem?_eq_some_iff] at this; have := this.1; omega) gln (u + 1) kl (by rw [hlv]; omega) (Nat.lt_of_le_of_lt bl (by decide)) (by omega)
              rw [show ((u + 1 : Nat) : Int) = (u : Int) + 1 by omega] at DL
              have HDL := Lib.hid DL; have HBN := Lib.hid bn; have HBL := Lib.hid bl; have HBR := Lib.hid br; have HECN := Lib.hid ecn; have HF12 := Lib.hid F12; have H12 := Lib.hid h12
              have HLV := Lib.hid hlv; have HRV := Lib.hid hrv; have HP6 := Lib.hid p6; have HP7 := Lib.hid p7; have HKR := Lib.hid hkr; have HRL := Lib.hid hrl; have HLR := Lib.hid l2; have HVM := Lib.hid hvm
              have hj0 : (0 : Int) ≤ (j : Int) := by omega
              have hj1 : (j : Int) < (Da.nodes.length : Int) := by omega
              have hu0 : (0 : Int) ≤ (u : Int) := by omega
              have hu63 : (u : Int) ≤ 63 := by omega
              clear DL bn bl br ecn F12 h12 hF IV okn h3 hxq hu hl' hr' okl okr ball gl gln hqDL hlv hrv hkl hkr p1 p2 p3 p4 p5 p6 p7 l1 l2 hll hrl hb12 e hvm hx
              go_wp2_with (with_reducible refine wpList_store_last rfl 44 (.tmp 13) (.tmp 61) rfl (br3 0 0 0) (br3 (u : Int) (l : Int) (r : Int)) rfl rfl sizebr rfl (br3_one _ _ _) ?_)
              refine HDL.out.mono ?_
              rintro e w13 ⟨rl, rfl, hnl, hb13⟩
              obtain ⟨sl, scl, hsl⟩ := hnl.shape
              have F13 := HF12.out.below hb13
              have h13 := heap_below hb13 H12.out
              clear d0 d1 d2 y0 y1 y2 e12 hsz12 hbq HDL
              obtain ⟨y0, y1, y2⟩ := box3 h13
              obtain ⟨vr, gr, grn⟩ := F13.ok r (by have := HLR.out; omega)
              have hrl := HRL.out; have hp7 := HP7.out; have hvm := HVM.out
              have hqDR := HQ.out
              have DR := doubled_any w13 b0 (c0 + 1) c0 pf _ Da (m : Int) r (by omega) F13.k0 F13.k1 (HA0.out.below F13.bel) q hqDR (by rw [← hqDR]; exact cell1_of F13.kc) (cell1_of F13.kp) vr (by rw [cell_of_row w13 c0 r _ _ _ F13.kb]; simpa using gr) _ (fun k => k < c0 + 2) (fun k hk => by have := F13.kc; rw [Array.getElem?_eq_some_iff] at this; have := this.1; omega) grn (u + 1) kr (by rw [HRV.out, ← HKR.out]; omega) (Nat.lt_of_le_of_lt HBR.out (by decide)) (by rw [← HKR.out]; omega)
              rw [show ((u + 1 : Nat) : Int) = (u : Int) + 1 by omega] at DR
              have HDR := Lib.hid DR; have HF13 := Lib.hid F13; have HNL := Lib.hid hnl
              clear DR F13 hnl hb13 h13 gr grn hqDR hrl hp7 hvm
              subst hsl
              go_wp2_with (fail)
              refine HDR.out.mono ?_
              rintro e w14 ⟨rr, rfl, hnr, hb14⟩
              obtain ⟨sr, scr, hsr⟩ := hnr.shape
              have F14 := HF13.out.below hb14
              have hnl14 := HNL.out.below hb14
              have A := add_nat w14 _ rr _ _ (hnl14.wide (fun k h => h.elim)) (hnr.wide (fun k h => h.elim)) (Nat.le_trans (limbs_len 3 _ (Nat.lt_of_le_of_lt HBL.out (by decide))) (by omega)) (Nat.le_trans (limbs_len 3 _ (Nat.lt_of_le_of_lt HBR.out (by decide))) (by omega)) (Nat.le_trans (limbs_len 3 _ (Nat.lt_of_le_of_lt HBN.out (by decide))) (by omega))
              have HADD := Lib.hid A; have HF14 := Lib.hid F14
              clear A F14 hnl14 hnr hb14 y0 y1 y2 HDR
              subst hsr
              go_wp2_with (fail)
              refine HADD.out.mono ?_
              rintro e w15 ⟨rs, rfl, hns, hb15⟩
              obtain ⟨ss, scs, hss⟩ := (hns NoB (fun b h => h.elim)).shape
              have F15 := HF14.out.below hb15
              have hN := hns (fun k => k < c0 + 2) (fun k hk => by have := HF14.out.kc; rw [Array.getElem?_eq_some_iff] at this; have := this.1; omega)
              have F16 := F15.next (by have := HB0.out; omega) HCB.out HPF.out hlt2 rs (by rw [HECN.out]; exact hN)
              have IV16 : Hid (∃ vs, CtInv w (w15.setCell ⟨c0, j + 2, none⟩ rs) b0 c0 pf Da (.slice (some ⟨b, off, none⟩) Da.nodes.length ca) m (j + 1) vs) := ⟨_, F16⟩
              have hc9 := cell1_of F15.kc
              rw [HQ.out] at hc9
              obtain ⟨y, hy⟩ : ∃ y, w15.cell? ⟨c0, j + 2, none⟩ = some y := by
                rw [cell_of_row w15 c0 (j + 2) _ _ _ F15.kb]
                have := F15.ln
                exact ⟨_, Array.getElem?_eq_getElem (by simp; omega)⟩
              have hf := frozen_box F15.kb (j + 2)
              have hjq : (j : Int) + 2 < (q : Int) := by have := HQ.out; omega
              clear hns hb15 F15 hN F16 HADD
              subst hss
              go_wp2_with (fail)
              go_roundw
              case rel => exact ⟨j + 1, by omega, by go_num, IV16⟩
              case measure => simp [intOf]; omega
            · obtain rfl : j = Da.nodes.length := by omega
              obtain ⟨n0, hn0⟩ : ∃ n0 : Nat, Da.root = (n0 : Int) := ⟨Da.root.toNat, by omega⟩
              have hn0l : n0 < Da.nodes.length + 2 := by omega
              obtain ⟨vr, gr, grn⟩ := hF.ok n0 (by omega)
              have okr := (HW.out.stands hn0l).1
              have hrv := HW.out.lv hn0l
              have ball := tr_bel HW.out HALL.out
              obtain ⟨kk, hkk⟩ : ∃ kk, min m (tr Da.nodes n0).lv = kk := ⟨_, rfl⟩
              have br := T.cn_le okr (ball n0 hn0l) h64 0 (Nat.zero_le _)
              rw [Nat.sub_zero, hkk] at br
              have HT : Hid (Da.tree.count (m : Int).toNat = (tr Da.nodes n0).cn m * 2 ^ kk) := by
                show _ = _
                unfold Dg.tree T.count
                rw [hn0, Int.toNat_natCast, Int.toNat_natCast, hkk]
              have hqDR := HQ.out
              have DR := doubled_any wr b0 (c0 + 1) c0 pf _ Da (m : Int) n0 (by omega) hF.k0 hF.k1 (HA0.out.below hF.bel) q hqDR (by rw [← hqDR]; exact cell1_of hF.kc) (cell1_of hF.kp) vr (by rw [cell_of_row wr c0 n0 _ _ _ hF.kb]; simpa using gr) _ (fun k => k < c0 + 2) (fun k hk => by have := hF.kc; rw [Array.getElem?_eq_some_iff] at this; have := this.1; omega) grn 0 kk (by rw [hrv, ← hkk]; omega) (Nat.lt_of_le_of_lt br (by decide)) (by rw [← hkk]; omega)
              rw [show ((0 : Nat) : Int) = 0 from rfl] at DR
              obtain ⟨x0, x1⟩ := box2 hF.k0
              rw [hn0] at x1
              have HDR := Lib.hid DR; have HF := Lib.hid hF
              have HLE : Hid (w.heap.size ≤ c0 + 2) := by show _ ≤ _; have := HB0.out; have := HCB.out; omega
              clear DR hF IV gr grn okr hrv ball hkk br hqDR
              go_wp2_with (fail)
              refine HDR.out.mono ?_
              rintro e w13 ⟨rr, rfl, hnr, hb13⟩
              obtain ⟨sr, scr, hsr⟩ := hnr.shape
              have HNR : Hid (NatAt w13 (fun k => k < c0 + 2) rr ((tr Da.nodes n0).cn m * 2 ^ kk)) := hnr
              have BF : Hid (Below w.heap.size w w13) := HF.out.bel.trans (hb13.mono HF.out.bel.size)
              clear hnr hb13 x0 x1 HDR
              subst hsr
              go_wp2_with (fail)
              go_ret2
              exact ⟨⟨fun h => absurd HE.out h, fun _ => ⟨_, rfl, fun M hM => by rw [HT.out]; exact HNR.out.wide (fun k hk => by have := hM k hk; have := HLE.out; omega)⟩⟩, BF.out⟩
  · have HE := Lib.hid (errC_bad (n := n) hc)
    obtain ⟨c, hcq⟩ : ∃ c, code Da = c := ⟨_, rfl⟩
    rw [hcq] at hc HE ⊢
    have hne : (c != 0) = true := by simpa using hc
    have HC := Lib.hid hc
    clear hcq hc
    go_wp2_with (fail)
    go_ret2
    exact ⟨⟨fun _ => by rw [HE.out]; rfl, fun h => absurd (HE.out.symm.trans h) HC.out⟩, B5.out⟩

end Go.Proofs.Ytohmibmakelclaa

namespace Go.Proofs.Ytohmibmakelclaa
set_option linter.unusedVariables false
set_option linter.unusedSimpArgs false
open Go.RowKit

/-- The least configuration of a tree's set, as a number. -/
def T.lst : T → Nat
  | .leaf _ => 0
  | .node v l h => if l = .leaf false then h.lst ||| 2 ^ v else if h = .leaf false then l.lst else min l.lst (h.lst ||| 2 ^ v)

theorem T.lst_lt : ∀ (t : T), t.Ok → t.lst < 2 ^ 64
  | .leaf b, _ => by simp [T.lst]
  | .node v l h, ok => by
    have h1 := T.lst_lt l ok.2.2.2.2.1
    have h2 := T.lst_lt h ok.2.2.2.2.2
    have h3 : h.lst ||| 2 ^ v < 2 ^ 64 := Nat.or_lt_two_pow h2 (Nat.pow_lt_pow_right (by omega) ok.1)
    simp only [T.lst]
    split
    · exact h3
    · split
      · exact h1
      · omega

theorem or_shift (a u : Nat) (ha : a < 2 ^ 64) (hu : u ≤ 63) : Go.bits BinOp.or IntKind.u64 (a : Int) (IntKind.u64.wrap (2 ^ u)) = ((a ||| 2 ^ u : Nat) : Int) := by
  have h2 : 2 ^ u < 2 ^ 64 := Nat.pow_lt_pow_right (by omega) (by omega)
  have e : IntKind.u64.wrap (2 ^ u) = ((2 ^ u : Nat) : Int) := by
    show ((2 : Int) ^ u) % 18446744073709551616 = _
    rw [show (2 : Int) ^ u = ((2 ^ u : Nat) : Int) by push_cast; rfl]
    exact Int.emod_eq_of_lt (Int.natCast_nonneg _) (Int.ofNat_lt.2 (show 2 ^ u < 18446744073709551616 from h2))
  rw [e]
  exact bits_or_u64_nat a (2 ^ u) (by omega) (by omega)

theorem infocf : (Try.prog.info? 39).map (fun i => (i.zero, i.size, i.bytes)) = some (some (.int .u64 0), 1, 8) := by kernel_rfl

/-- What the loop keeps, behind j branches. -/
structure LInv (w0 w : World) (b0 c0 : Nat) (D : Dg) (S : Value) (j : Nat) (vs : List Nat) : Prop where
  k0 : w.heap[b0]? = some (.cells #[S, .int .i64 D.root] 28 (0, 0))
  kb : w.heap[c0]? = some (.cells (vs.map (fun (x : Nat) => Value.int .u64 (x : Int))).toArray 39 (0, 0))
  ln : vs.length = D.nodes.length + 2
  ok : ∀ k, k < j + 2 → vs[k]? = some (tr D.nodes k).lst
  bel : Below w0.heap.size w0 w

section
variable {w0 w : World} {b0 c0 : Nat} {D : Dg} {S : Value} {j : Nat} {vs : List Nat}

theorem LInv.below (h : LInv w0 w b0 c0 D S j vs) {w' : World} (hb : Below w.heap.size w w') : LInv w0 w' b0 c0 D S j vs :=
  ⟨heap_below hb h.k0, heap_below hb h.kb, h.ln, h.ok, h.bel.trans (hb.mono h.bel.size)⟩
theorem LInv.next (h : LInv w0 w b0 c0 D S j vs) (h0 : w0.heap.size ≤ b0) (h1 : b0 < c0) (hj : j < D.nodes.length) (x : Nat) (hx : x = (tr D.nodes (j + 2)).lst) :
    LInv w0 (w.setCell ⟨c0, j + 2, none⟩ (.int .u64 (x : Int))) b0 c0 D S (j + 1) (vs.set (j + 2) x) := by
  refine ⟨(heap_setCell_other w ⟨c0, j + 2, none⟩ b0 _ (by simp; omega)).trans h.k0, ?_, by simp [h.ln], ?_, h.bel.setCell (by show _ ≤ c0; omega) _⟩
  · rw [heap_setCell_same w c0 (j + 2) _ _ _ h.kb, List.map_set, List.setIfInBounds_toArray]
  · intro k hk
    by_cases e : k = j + 2
    · subst e
      rw [List.getElem?_set_self (by rw [h.ln]; omega), hx]
    · rw [List.getElem?_set_ne (by omega)]; exact h.ok k (by omega)
theorem LInv.cell (h : LInv w0 w b0 c0 D S j vs) (k : Nat) (hk : k < j + 2) : w.cell? ⟨c0, k, none⟩ = some (.int .u64 ((tr D.nodes k).lst : Int)) := by
  rw [cell_of_row w c0 k _ _ _ h.kb]
  simp [h.ok k hk]
end

/-- What Least hands back. -/
noncomputable def leastOf (D : Dg) : Ending := by
  classical
  exact if code D = 0 ∧ D.tree ≠ .leaf false then .returned (.tuple #[.int .u64 (D.tree.lst : Int), .bool true]) else .returned (.tuple #[.int .u64 0, .bool false])

set_option maxRecDepth 100000 in
set_option maxHeartbeats 2000000 in
theorem least_any (w : World) (va : Value) (Da : Dg) (ha : DgAt w NoB va Da) :
    Calls Try.prog 29 #[va] w fun e w' => e = leastOf Da ∧ Below w.heap.size w w' := by
  obtain ⟨aa, ca, rfl⟩ := ha.shape
  obtain ⟨w0, b0, e0, hb0, z0, h0, B0⟩ := laid w #[.slice aa Da.nodes.length ca, .int .i64 Da.root] 28
  have BW : Hid (Below w.heap.size w w0) := B0
  obtain ⟨x0, x1⟩ := box2 h0
  have K := Lib.hid h0; have HB0 := Lib.hid hb0; have Z0 := Lib.hid z0
  have HA := Lib.hid (ha.below B0); have HA0 := Lib.hid ha
  clear h0 B0 ha
  go_enter Try.func29, Try.ntmps29
  go_wp2_with (fail)
  refine (check_any w0 _ Da HA.out).mono ?_
  rintro e w5 ⟨rfl, hb5⟩
  have K5 := Lib.hid (heap_below hb5 K.out)
  have B5 : Hid (Below w.heap.size w w5) := BW.out.trans (hb5.mono BW.out.size)
  have Z5 : Hid (b0 + 1 ≤ w5.heap.size) := by show _ ≤ _; have := hb5.size; have := Z0.out; omega
  clear hb5 x0 x1 e0 z0
  obtain ⟨x0, x1⟩ := box2 K5.out
  by_cases hc : code Da = 0
  · obtain ⟨hl, hva⟩ := code_zero hc
    obtain ⟨a1, a2, a3, -⟩ := (valid_iff Da).1 hva
    obtain ⟨n0, hn0⟩ : ∃ n0 : Nat, Da.root = (n0 : Int) := ⟨Da.root.toNat, by omega⟩
    have hn0l : n0 < Da.nodes.length + 2 := by omega
    have HT : Hid (Da.tree = tr Da.nodes n0) := by show _ = _; unfold Dg.tree; rw [hn0, Int.toNat_natCast]
    have HW := Lib.hid a1; have HC := Lib.hid hc
    rw [hc]
    clear hc hva a1
    cases n0 with
    | zero =>
      have HL : Hid (leastOf Da = .returned (.tuple #[.int .u64 0, .bool false])) := by
        show _ = _
        unfold leastOf
        rw [if_neg (by rw [HT.out, tr_zero]; simp)]
      have hr0 : Da.root = 0 := hn0
      rw [hr0] at x1
      clear hn0 hr0
      go_wp2_with (fail)
      go_ret2
      exact ⟨by rw [HL.out]; rfl, B5.out⟩
    | succ n1 =>
      have HL : Hid (leastOf Da = .returned (.tuple #[.int .u64 (Da.tree.lst : Int), .bool true])) := by
        show _ = _
        unfold leastOf
        rw [if_pos ⟨HC.out, fun h => by
          rw [HT.out, ← tr_zero Da.nodes] at h
          have := HW.out.inj hn0l (by omega) h
          omega⟩]
      have hne : (((n1 + 1 : Nat) : Int) == 0) = false := by simp; omega
      obtain ⟨n0, hn0q⟩ : ∃ n0, n1 + 1 = n0 := ⟨_, rfl⟩
      rw [hn0q] at hne hn0 hn0l HT
      rw [hn0] at x1
      obtain ⟨c0, hc0⟩ : ∃ c0, w5.heap.size = c0 := ⟨_, rfl⟩
      obtain ⟨ii, hii, iz0, iz1, iz2⟩ := info_parts infocf
      have hmk := run_makeSlice (P := Try.prog) (w := w5) 95 39 ii (.int .u64 0) Try.underlying95 hii iz0 .i64 .i64 ((Da.nodes.length : Int) + 2) ((Da.nodes.length : Int) + 2) (by omega) (Int.le_refl _) (by rw [iz1]; omega) (by rw [iz2]; omega) (by omega)
      obtain ⟨q, hq⟩ : ∃ q, Da.nodes.length + 2 = q := ⟨_, rfl⟩
      rw [iz1, show ((Da.nodes.length : Int) + 2).toNat = q by omega] at hmk
      obtain ⟨w6, e6⟩ : ∃ w6, w5.alloc (.cells (madeCells (Value.int .u64 0).cells (q * 1)) 39) = w6 := ⟨_, rfl⟩
      rw [e6, hc0] at hmk
      have h6 : w6.heap[c0]? = some (.cells (madeCells (Value.int .u64 0).cells (q * 1)) 39 (0, 0)) := by rw [← e6, ← hc0]; exact heap_alloc_new w5 _
      have hcells : madeCells (Value.int .u64 0).cells (q * 1) = ((List.replicate q 0).map (fun (x : Nat) => Value.int .u64 (x : Int))).toArray := by
        apply Array.toList_inj.1
        rw [Nat.mul_one]
        refine (toList_madeCells_one _ _).trans ?_
        simp
      rw [hcells] at h6
      have B6 : Below w5.heap.size w5 w6 := by rw [← e6]; exact (Below.refl _ _).alloc (Nat.le_refl _) _
      have HQ := Lib.hid hq
      have INV : Hid (∃ vs, LInv w w6 b0 c0 Da (.slice aa Da.nodes.length ca) 0 vs) := by
        refine ⟨List.replicate q 0, heap_below B6 K5.out, h6, by simp [hq], fun k hk => ?_, B5.out.trans (B6.mono B5.out.size)⟩
        have hk2 : k = 0 ∨ k = 1 := by omega
        rcases hk2 with rfl | rfl
        · rw [tr_zero]; simp [List.getElem?_replicate, T.lst]; omega
        · rw [tr_one]; simp [List.getElem?_replicate, T.lst]; omega
      have HB0C : Hid (b0 < c0) := by show _ < _; have := Z5.out; omega
      obtain ⟨y0, -⟩ := box2 (heap_below B6 K5.out)
      clear h6 hcells B6 hii iz0 iz1 iz2 hq hn0q
      go_wp2_with (fail)
      clear x0 x1 y0 hmk e6 hc0
      go_loopw [25] (fun i wr => ∃ j : Nat, j ≤ Da.nodes.length ∧ i = .int .i64 j ∧ Hid (∃ vs, LInv w wr b0 c0 Da (.slice aa Da.nodes.length ca) j vs)) (fun i _ => Da.nodes.length - (intOf i).toNat)
      case atStart => exact ⟨0, Nat.zero_le _, rfl, INV⟩
      case round =>
        clear INV
        obtain ⟨j, hj, rfl, IV⟩ := hrel
        obtain ⟨vs, hF⟩ := IV.out
        by_cases hlt : j < Da.nodes.length
        · obtain ⟨b, off, rfl, -, -, d0, d1, d2⟩ := ((HA0.out.below hF.bel).brs).get j hlt
          obtain ⟨okn, -, h3⟩ := HW.out.stands (n := j + 2) (by omega)
          obtain ⟨x, hx, e, l1, l2, p1, p2, p3, p4, p5, p6, p7⟩ := h3 (by omega)
          rw [show j + 2 - 2 = j by omega, List.getElem?_eq_getElem hlt] at hx
          obtain rfl : Da.nodes[j] = x := by simpa using hx
          obtain ⟨x, hxq⟩ : ∃ x, Da.nodes[j] = x := ⟨_, rfl⟩
          rw [hxq] at d0 d1 d2 e l1 l2 p1 p2 p3 p4 p5 p6 p7
          obtain ⟨u, hu⟩ : ∃ u : Nat, x.v = (u : Int) := ⟨x.v.toNat, by omega⟩
          obtain ⟨l, hl'⟩ : ∃ l : Nat, x.l = (l : Int) := ⟨x.l.toNat, by omega⟩
          obtain ⟨r, hr'⟩ : ∃ r : Nat, x.h = (r : Int) := ⟨x.h.toNat, by omega⟩
          rw [hu] at d0 e p4
          rw [hl'] at d1 e l1
          rw [hr'] at d2 e l2
          simp only [Int.toNat_natCast] at e l1 l2
          have hll : l < Da.nodes.length + 2 := by omega
          have hrl : r < Da.nodes.length + 2 := by omega
          obtain ⟨w12, bq, e12, hbq, hsz12, h12, hb12⟩ := laid wr (br3 (u : Int) (l : Int) (r : Int)) 44
          obtain ⟨y0, y1, y2⟩ := box3 h12
          have F12 := hF.below hb12
          have cl := F12.cell l (by omega)
          have cr := F12.cell r (by omega)
          have el : (tr Da.nodes l = .leaf false) ↔ l = 0 := ⟨fun h => by rw [← tr_zero Da.nodes] at h; exact HW.out.inj hll (by omega) h, fun h => by rw [h, tr_zero]⟩
          have er : (tr Da.nodes r = .leaf false) ↔ r = 0 := ⟨fun h => by rw [← tr_zero Da.nodes] at h; exact HW.out.inj hrl (by omega) h, fun h => by rw [h, tr_zero]⟩
          have tl := T.lst_lt _ (HW.out.stands hll).1
          have th := T.lst_lt _ (HW.out.stands hrl).1
          have els : (tr Da.nodes (j + 2)).lst = if l = 0 then (tr Da.nodes r).lst ||| 2 ^ u else if r = 0 then (tr Da.nodes l).lst else min (tr Da.nodes l).lst ((tr Da.nodes r).lst ||| 2 ^ u) := by
            rw [e]; simp only [T.lst, el, er]
          obtain ⟨Ll, hLl⟩ : ∃ n, (tr Da.nodes l).lst = n := ⟨_, rfl⟩
          obtain ⟨Lr, hLr⟩ : ∃ n, (tr Da.nodes r).lst = n := ⟨_, rfl⟩
          rw [hLl] at cl tl els
          rw [hLr] at cr th els
          have HF12 := Lib.hid F12; have HELS := Lib.hid els
          have hj0 : (0 : Int) ≤ (j : Int) := by omega
          have hj1 : (j : Int) < (Da.nodes.length : Int) := by omega
          have hu0 : (0 : Int) ≤ (u : Int) := by omega
          have hu63 : (u : Int) ≤ 63 := by omega
          have hlq : (l : Int) < (q : Int) := by have := HQ.out; omega
          have hrq : (r : Int) < (q : Int) := by have := HQ.out; omega
          have HTL := Lib.hid tl; have HTH := Lib.hid th
          clear F12 els hF IV okn h3 hxq hu hl' hr' e p1 p2 p3 p4 p5 p6 p7 l1 l2 hll hrl hb12 hx h12 el er tl th hLl hLr
          go_wp2_with (with_reducible refine wpList_store_last rfl 44 (.tmp 6) (.tmp 29) rfl (br3 0 0 0) (br3 (u : Int) (l : Int) (r : Int)) rfl rfl sizebr rfl (br3_one _ _ _) ?_)
          go_quiet (fail)
          rw [or_shift Lr u HTH.out (by omega)]
          obtain ⟨H, hH⟩ : ∃ H, Lr ||| 2 ^ u = H := ⟨_, rfl⟩
          rw [hH] at HELS ⊢
          have hjq : (j : Int) + 2 < (q : Int) := by have := HQ.out; omega
          clear hH
          by_cases h0 : l = 0
          · subst h0
            have F13 := HF12.out.below (below_drewN (Below.refl _ w12) nq)
            have F14 := F13.next (by have := HB0.out; omega) HB0C.out hlt H (by rw [HELS.out]; rfl)
            have IV14 : Hid (∃ vs, LInv w ((w12.drewN nq).setCell ⟨c0, j + 2, none⟩ (.int .u64 ((H : Nat) : Int))) b0 c0 Da (.slice (some ⟨b, off, none⟩) Da.nodes.length ca) (j + 1) vs) := ⟨_, F14⟩
            obtain ⟨y, hy⟩ : ∃ y, (w12.drewN nq).cell? ⟨c0, j + 2, none⟩ = some y := by
              rw [cell_of_row _ c0 (j + 2) _ _ _ F13.kb]
              have := F13.ln
              exact ⟨_, Array.getElem?_eq_getElem (by simp; omega)⟩
            have hf := frozen_box F13.kb (j + 2)
            clear F13 F14 cl cr
            go_wp2_with (fail)
            go_roundw
            case rel => exact ⟨j + 1, by omega, by go_num, IV14⟩
            case measure => simp [intOf]; omega
          · have hl0 : ((l : Int) == 0) = false := by simp; omega
            by_cases h1 : r = 0
            · subst h1
              have F13 := HF12.out.below (below_drewN (Below.refl _ w12) nq)
              have F14 := F13.next (by have := HB0.out; omega) HB0C.out hlt Ll (by rw [HELS.out]; rw [if_neg h0]; rfl)
              have IV14 : Hid (∃ vs, LInv w ((w12.drewN nq).setCell ⟨c0, j + 2, none⟩ (.int .u64 ((Ll : Nat) : Int))) b0 c0 Da (.slice (some ⟨b, off, none⟩) Da.nodes.length ca) (j + 1) vs) := ⟨_, F14⟩
              obtain ⟨y, hy⟩ : ∃ y, (w12.drewN nq).cell? ⟨c0, j + 2, none⟩ = some y := by
                rw [cell_of_row _ c0 (j + 2) _ _ _ F13.kb]
                have := F13.ln
                exact ⟨_, Array.getElem?_eq_getElem (by simp; omega)⟩
              have hf := frozen_box F13.kb (j + 2)
              clear F13 F14 cl cr
              go_wp2_with (fail)
              go_roundw
              case rel => exact ⟨j + 1, by omega, by go_num, IV14⟩
              case measure => simp [intOf]; omega
            · have hr0 : ((r : Int) == 0) = false := by simp; omega
              by_cases h2 : H < Ll
              · have h2' : (H : Int) < (Ll : Int) := by omega
                have F13 := HF12.out.below (below_drewN (Below.refl _ w12) nq)
                have F14 := F13.next (by have := HB0.out; omega) HB0C.out hlt H (by rw [HELS.out]; rw [if_neg h0, if_neg h1]; omega)
                have IV14 : Hid (∃ vs, LInv w ((w12.drewN nq).setCell ⟨c0, j + 2, none⟩ (.int .u64 ((H : Nat) : Int))) b0 c0 Da (.slice (some ⟨b, off, none⟩) Da.nodes.length ca) (j + 1) vs) := ⟨_, F14⟩
                obtain ⟨y, hy⟩ : ∃ y, (w12.drewN nq).cell? ⟨c0, j + 2, none⟩ = some y := by
                  rw [cell_of_row _ c0 (j + 2) _ _ _ F13.kb]
                  have := F13.ln
                  exact ⟨_, Array.getElem?_eq_getElem (by simp; omega)⟩
                have hf := frozen_box F13.kb (j + 2)
                clear F13 F14 cl cr
                go_wp2_with (fail)
                go_roundw
                case rel => exact ⟨j + 1, by omega, by go_num, IV14⟩
                case measure => simp [intOf]; omega
              · have h2' : ¬ (H : Int) < (Ll : Int) := by omega
                have F13 := HF12.out.below (below_drewN (Below.refl _ w12) nq)
                have F14 := F13.next (by have := HB0.out; omega) HB0C.out hlt Ll (by rw [HELS.out]; rw [if_neg h0, if_neg h1]; omega)
                have IV14 : Hid (∃ vs, LInv w ((w12.drewN nq).setCell ⟨c0, j + 2, none⟩ (.int .u64 ((Ll : Nat) : Int))) b0 c0 Da (.slice (some ⟨b, off, none⟩) Da.nodes.length ca) (j + 1) vs) := ⟨_, F14⟩
                obtain ⟨y, hy⟩ : ∃ y, (w12.drewN nq).cell? ⟨c0, j + 2, none⟩ = some y := by
                  rw [cell_of_row _ c0 (j + 2) _ _ _ F13.kb]
                  have := F13.ln
                  exact ⟨_, Array.getElem?_eq_getElem (by simp; omega)⟩
                have hf := frozen_box F13.kb (j + 2)
                clear F13 F14 cl cr
                go_wp2_with (fail)
                go_roundw
                case rel => exact ⟨j + 1, by omega, by go_num, IV14⟩
                case measure => simp [intOf]; omega
        · obtain rfl : j = Da.nodes.length := by omega
          obtain ⟨x0, x1⟩ := box2 hF.k0
          have cn := hF.cell n0 (by omega)
          rw [hn0] at x1
          have HF := Lib.hid hF
          have hnq : (n0 : Int) < (q : Int) := by have := HQ.out; omega
          clear hF IV
          go_wp2_with (fail)
          go_ret2
          exact ⟨by rw [HL.out, HT.out]; rfl, HF.out.bel⟩
  · have HL : Hid (leastOf Da = .returned (.tuple #[.int .u64 0, .bool false])) := by
      show _ = _
      unfold leastOf
      rw [if_neg (fun h => hc h.1)]
    obtain ⟨c, hcq⟩ : ∃ c, code Da = c := ⟨_, rfl⟩
    rw [hcq] at hc ⊢
    have hne : (c != 0) = true := by simpa using hc
    clear hcq hc
    go_wp2_with (fail)
    go_ret2
    exact ⟨by rw [HL.out]; rfl, B5.out⟩

end Go.Proofs.Ytohmibmakelclaa
