/-
  The reference: the walk that numbers branches.
  Condition: at most 2^40 branches.
-/
import Derived.Test.YtohmibmakelclaaPkN
import Derived.Test.YtohmibmakelclaaPkJ
namespace Go.Proofs.Ytohmibmakelclaa
set_option linter.unusedVariables false
set_option linter.unusedSimpArgs false
open Go.RowKit

/-- The list of new numbers. -/
def numL (ns : List Br) (s : List T) : List Int := (List.range ns.length).map (fun (k : Nat) => (numF ns s ((k : Int) + 2)).getD 0)
theorem numL_length (ns : List Br) (s : List T) : (numL ns s).length = ns.length := by simp [numL]
theorem numL_get (ns : List Br) (s : List T) (k : Nat) (hk : k < ns.length) : (numL ns s)[k]? = some ((numF ns s ((k : Int) + 2)).getD 0) := by simp [numL, hk]

theorem numL_set {ns : List Br} {s2 s3 : List T} {i : Nat} {q : Int} (h : ∀ y, numF ns s3 y = if y = (i : Int) + 2 then some q else numF ns s2 y) (hi : i < ns.length) : numL ns s3 = (numL ns s2).set i q := by
  apply List.ext_getElem?
  intro k
  by_cases hk : k < ns.length
  · rw [numL_get _ _ _ hk, h]
    by_cases e : k = i
    · subst e
      rw [List.getElem?_set_self (by rw [numL_length]; exact hi), if_pos rfl]; rfl
    · rw [List.getElem?_set_ne (fun h => e h.symm), numL_get _ _ _ hk, if_neg (by omega)]
  · rw [List.getElem?_eq_none (by rw [numL_length]; omega), List.getElem?_eq_none (by rw [List.length_set, numL_length]; omega)]

/-- The blocks that the walk writes. -/
def WM (p bn : Nat) (S : Value) : Nat → Prop := fun k => k = p ∨ k = bn ∨ S.ownBlock = some k

structure RVInv (w : World) (B : Nat) (ns : List Br) (p bn : Nat) (S0 : Value) (s : List T) (S : Value) : Prop where
  st : w.heap[p]? = some (.cells #[S0, .slice (some ⟨bn, 0, none⟩) ns.length ns.length, S] 144 (0, 0))
  src : Brs w (fun k => B ≤ k) S0 ns
  num : w.heap[bn]? = some (.cells ((numL ns s).map (Value.int .i64)).toArray 3 (0, 0))
  row : w.ownsRow B 44 3 S s.length (bcells (table s))
  hp : B ≤ p
  hbn : B ≤ bn

section
variable {w : World} {B : Nat} {ns : List Br} {p bn : Nat} {S0 S : Value} {s : List T}

theorem RVInv.away (h : RVInv w B ns p bn S0 s S) : p ≠ bn ∧ S.ownBlock ≠ some p ∧ S.ownBlock ≠ some bn ∧ (∀ k, WM p bn S k → B ≤ k ∧ k < w.heap.size) := by
  refine ⟨ne_type h.st h.num (by decide), fun e => ?_, fun e => ?_, fun k hk => ?_⟩
  · obtain ⟨cs, hc⟩ := own_type h.row e
    exact ne_type hc h.st (by decide) rfl
  · obtain ⟨cs, hc⟩ := own_type h.row e
    exact ne_type hc h.num (by decide) rfl
  · rcases hk with e | e | e
    · rw [e]; exact ⟨h.hp, by have := h.st; rw [Array.getElem?_eq_some_iff] at this; exact this.1⟩
    · rw [e]; exact ⟨h.hbn, by have := h.num; rw [Array.getElem?_eq_some_iff] at this; exact this.1⟩
    · exact h.row.lt k e

theorem RVInv.below (h : RVInv w B ns p bn S0 s S) {w' : World} (hb : Below w.heap.size w w') : RVInv w' B ns p bn S0 s S :=
  ⟨heap_below hb h.st, h.src.step (Step.of_below hb _), heap_below hb h.num, ownsRow_below hb h.row, h.hp, h.hbn⟩

theorem RVInv.cells (h : RVInv w B ns p bn S0 s S) : w.cell? ⟨p, 0, none⟩ = some S0 ∧ w.cell? ⟨p, 1, none⟩ = some (.slice (some ⟨bn, 0, none⟩) ns.length ns.length) ∧ w.cell? ⟨p, 2, none⟩ = some S := by
  refine ⟨?_, ?_, ?_⟩ <;> (rw [cell_of_row w p _ _ _ _ h.st]; rfl)
theorem RVInv.cell (h : RVInv w B ns p bn S0 s S) (k : Nat) (hk : k < ns.length) : w.cell? ⟨bn, k, none⟩ = some (.int .i64 ((numF ns s ((k : Int) + 2)).getD 0)) := by
  rw [cell_of_row w bn k _ _ _ h.num]
  simp [numL_get _ _ _ hk]
end

section
variable {B : Nat} {ns : List Br} {p bn : Nat} {S0 : Value}

set_option maxRecDepth 100000 in
set_option maxHeartbeats 1000000 in
/-- A number that the walk knows already. -/
theorem rvisit_known (hw : Wf ns) {w : World} {s : List T} {S : Value} (h : RVInv w B ns p bn S0 s S) (n : Nat) (hn : n < ns.length + 2) (hl : ns.length ≤ 1099511627776) (m : Int) (hm : numF ns s n = some m) :
    Calls Try.prog 121 #[.pointer (some ⟨p, 0, none⟩), .int .i64 n] w fun e w' => e = .returned (.int .i64 m) ∧ w = w' := by
  by_cases h2 : n < 2
  · have hnm : m = (n : Int) := by
      unfold numF at hm
      rw [if_neg (by omega), if_pos (by omega)] at hm
      exact (Option.some.inj hm).symm
    subst hnm
    have h2' : (n : Int) < 2 := by omega
    clear h hm
    go_enter Try.func121, Try.ntmps121
    go_wp2_with (fail)
    go_ret
    exact ⟨rfl, rfl⟩
  · obtain ⟨i, rfl⟩ : ∃ i, n = i + 2 := ⟨n - 2, by omega⟩
    have hcast : ((i + 2 : Nat) : Int) = (i : Int) + 2 := by omega
    rw [hcast] at hm ⊢
    have hi : i < ns.length := by omega
    have c := h.cell i hi
    rw [hm] at c
    simp only [Option.getD_some] at c
    obtain ⟨c0, c1, c2⟩ := h.cells
    have hpos : 0 < m := by
      unfold numF at hm
      rw [if_neg (by omega), if_neg (by omega)] at hm
      split at hm
      · rename_i h1
        have := Option.some.inj hm
        obtain ⟨b, -, e, -⟩ := (hw.stands (n := i + 2) hn).2.2 (by omega)
        rw [show ((i : Int) + 2).toNat = i + 2 by omega, e] at this
        rw [← this]; simp only [idx]; omega
      · cases hm
    have hi0 : (0 : Int) ≤ (i : Int) := by omega
    have hi1 : (i : Int) < (ns.length : Int) := by omega
    have hl0 : (ns.length : Int) ≤ 1099511627776 := by omega
    clear h hm
    go_enter Try.func121, Try.ntmps121
    go_wp2_with (fail)
    go_ret
    exact ⟨rfl, rfl⟩

/-- What a call of the walk at a number does. -/
def RVisDoes (B : Nat) (ns : List Br) (p bn : Nat) (S0 : Value) (x : Int) (s s' : List T) (r : Int) : Prop :=
  ∀ (w : World) (S : Value), RVInv w B ns p bn S0 s S → Calls Try.prog 121 #[.pointer (some ⟨p, 0, none⟩), .int .i64 x] w fun e w' =>
    e = .returned (.int .i64 r) ∧ ∃ S', RVInv w' B ns p bn S0 s' S' ∧ Step (WM p bn S) w (WM p bn S') w'

set_option maxRecDepth 100000 in
set_option maxHeartbeats 2000000 in
/-- A branch that the walk has not met before. -/
theorem rvisit_new (i : Nat) (hi : i < ns.length) (hlen : ns.length ≤ 1099511627776) (x : Br) (hx : ns[i] = x) (lo hi' : Int) (s s1 s2 s3 : List T)
    (L : RVisDoes B ns p bn S0 x.l s s1 lo) (H : RVisDoes B ns p bn S0 x.h s1 s2 hi')
    (hnone : numF ns s ((i : Int) + 2) = none) (htab : table s3 = table s2 ++ [⟨x.v, lo, hi'⟩]) (hl3 : s3.length = s2.length + 1) (hnum : ∀ y, numF ns s3 y = if y = (i : Int) + 2 then some ((s2.length : Int) + 2) else numF ns s2 y) (hsz : s2.length ≤ ns.length + 2) :
    RVisDoes B ns p bn S0 ((i : Int) + 2) s s3 ((s2.length : Int) + 2) := by
  intro w S h
  obtain ⟨a, c, hS0⟩ := h.src.shape
  obtain ⟨sb, off, hSa, hsb, hsm, d0, d1, d2⟩ := (by have := h.src; rw [hS0] at this; exact this.get i hi : ∃ b off, a = some ⟨b, off, none⟩ ∧ b < w.heap.size ∧ ¬ B ≤ b ∧ w.cell? ⟨b, off + i * 3, none⟩ = some (.int .i64 ns[i].v) ∧ w.cell? ⟨b, off + i * 3 + 1, none⟩ = some (.int .i64 ns[i].l) ∧ w.cell? ⟨b, off + i * 3 + 2, none⟩ = some (.int .i64 ns[i].h))
  subst hSa
  rw [hx] at d0 d1 d2
  obtain ⟨c0, c1, c2⟩ := h.cells
  have cn := h.cell i hi
  rw [hnone] at cn
  simp only [Option.getD_none] at cn
  rw [hS0] at c0
  obtain ⟨w1, bx, hw1q, hbx, hsz1, hX, hb1⟩ := laid w (br3 x.v x.l x.h) 44
  obtain ⟨y0, y1, y2⟩ := box3 hX
  have HI1 := Lib.hid (h.below hb1)
  have HX1 := Lib.hid hX; have HB1 := Lib.hid hb1
  have VL : Hid (∀ k, WM p bn S k → k < w.heap.size) := fun k hk => (h.away.2.2.2 k hk).2
  have HTAB := Lib.hid htab; have HL3 := Lib.hid hl3; have HNUM := Lib.hid hnum; have HL := Lib.hid L; have HH := Lib.hid H; have HS0 := Lib.hid hS0
  have hi0 : (0 : Int) ≤ (i : Int) := by omega
  have hi1 : (i : Int) < (ns.length : Int) := by omega
  have hi2 : (ns.length : Int) ≤ 1099511627776 := by omega
  have hi3 : (i : Int) ≤ 1099511627776 := by omega
  clear h hnone htab hl3 hnum L H hX hb1 hx hS0 hsb hsm c2
  go_enter Try.func121, Try.ntmps121
  go_wp2_with (with_reducible refine wpList_store_last rfl 44 (.tmp 5) (.tmp 35) rfl (br3 0 0 0) (br3 x.v x.l x.h) rfl rfl sizebr rfl (br3_one _ _ _) ?_)
  refine (HL.out w1 S HI1.out).mono ?_
  rintro e w2 ⟨rfl, S1, hI2, hs2⟩
  have hnb : ∀ k, WM p bn S k → k ≠ bx := fun k hk => by have := VL.out k hk; omega
  have HX2 := (hs2.block bx (by omega) (fun hk => hnb bx hk rfl)).trans HX1.out
  have HX2' := Lib.hid HX2
  obtain ⟨z0, z1, z2⟩ := box3 HX2
  have HI2 := Lib.hid hI2; have HS2 := Lib.hid hs2
  have A1 : Hid (¬ WM p bn S1 bx) := hs2.away (by omega) (fun hk => hnb bx hk rfl)
  clear hI2 hs2 hnb HX2 c0 c1 cn d0 d1 d2 y0 y1 y2
  go_wp2_with (fail)
  refine (HH.out w2 S1 HI2.out).mono ?_
  rintro e w3 ⟨rfl, S2, hI3, hs3⟩
  have HX3 := (hs3.block bx (by have := HX2'.out; rw [Array.getElem?_eq_some_iff] at this; exact this.1) A1.out).trans HX2'.out
  have HX3' := Lib.hid HX3
  obtain ⟨sa, sc, hS2⟩ : ∃ sa sc, S2 = .slice sa s2.length sc := by obtain ⟨ao, cap, e, -⟩ := ownsRow_shape hI3.row; exact ⟨ao, cap, e⟩
  have A2 : Hid (¬ WM p bn S2 bx) := hs3.away (by have := HX2'.out; rw [Array.getElem?_eq_some_iff] at this; exact this.1) A1.out
  have ST3 : Hid (Step (WM p bn S) w (WM p bn S2) w3) := ((Step.of_below HB1.out _).trans HS2.out).trans hs3
  have HI3 := Lib.hid hI3; have HSS2 := Lib.hid hS2
  clear hI3 hs3 z0 z1 z2 HX3
  go_wp2_with (fail)
  have HI3d : Hid (RVInv w3.drew B ns p bn S0 s2 S2) := HI3.out.below (Below.refl _ _).drew
  have HX3d : Hid (w3.drew.heap[bx]? = some (.cells (br3 x.v x.l x.h) 44 (0, 0))) := HX3'.out
  have SX : Hid (∀ w' : World, w'.heap[bx]? = w3.heap[bx]? → w'.cell? ⟨bx, 0, none⟩ = some (.int .i64 x.v) ∧ w'.cell? ⟨bx, 1, none⟩ = some (.int .i64 x.l) ∧ w'.cell? ⟨bx, 2, none⟩ = some (.int .i64 x.h)) := fun w' hb => box3 (hb.trans HX3'.out)
  obtain ⟨i0, hi0', hz0, hz1, hz2⟩ := info_parts infobr
  have QL : Hid (bx < w3.drew.heap.size) := by have := HX3'.out; rw [Array.getElem?_eq_some_iff] at this; exact this.1
  have RW : Hid ((w3.alloc (.cells (br3 x.v lo hi') 44)).drew.ownsRow B 44 3 (.slice sa s2.length sc) s2.length (bcells (table s2))) := by show World.ownsRow _ _ _ _ _ _ _; rw [← HSS2.out]; exact HI3.out.row.alloc _
  have NC : Hid (∀ j u, ([.int .i64 x.v, .int .i64 lo, .int .i64 hi'] : List Value)[j]? = some u → (w3.alloc (.cells (br3 x.v lo hi') 44)).drew.cell? ((⟨w3.heap.size, 0, none⟩ : Addr).add j) = some u) := by
    intro j u hu
    rw [Addr.add_lit]
    show (w3.alloc _).cell? _ = _
    rw [World.cell?_alloc_at _ _ _ _ rfl]
    simpa using hu
  have BL : Hid (B ≤ (w3.alloc (.cells (br3 x.v lo hi') 44)).drew.heap.size) := by
    show B ≤ (w3.alloc _).heap.size
    have h1 := (HI3.out.away.2.2.2 p (.inl rfl)).1
    have h2 := (HI3.out.away.2.2.2 p (.inl rfl)).2
    simp; omega
  obtain ⟨-, -, e2⟩ := HI3.out.cells
  rw [HSS2.out] at e2
  have fp := frozen_box HI3.out.st 2
  refine wp_region_held_drew (S := fun w' => w'.cell? ⟨bx, 0, none⟩ = some (.int .i64 x.v) ∧ w'.cell? ⟨bx, 1, none⟩ = some (.int .i64 x.l) ∧ w'.cell? ⟨bx, 2, none⟩ = some (.int .i64 x.h)) (by kernel_rfl) (SX.out _ rfl) (fun hS => ?_)
  refine wpAnyH_take (i := 0) (v := (.pointer (some ⟨p, 0, none⟩))) rfl (by kernel_rfl) (by kernel_rfl) (by kernel_rfl) (fun _ _ _ h => h) (Or.inl ⟨by rfl, ?_⟩) hS ?_
  · intro w hSw
    go_split_ands
    go_simp
  try simp only [Act.put, List.getElem_toArray, List.getElem_cons_zero, List.getElem_cons_succ, List.setIfInBounds_toArray, List.set_cons_zero, List.set_cons_succ]
  refine wpAnyH_take (i := 1) (v := (.pointer (some ⟨p, 0, none⟩))) rfl (by kernel_rfl) (by kernel_rfl) (by kernel_rfl) (fun _ _ _ h => h) (Or.inl ⟨by rfl, ?_⟩) hS ?_
  · intro w hSw
    go_split_ands
    go_simp
  try simp only [Act.put, List.getElem_toArray, List.getElem_cons_zero, List.getElem_cons_succ, List.setIfInBounds_toArray, List.set_cons_zero, List.set_cons_succ]
  refine wpAnyH_take (i := 2) (v := (.pointer (some ⟨p, 0, none⟩))) rfl (by kernel_rfl) (by kernel_rfl) (by kernel_rfl) (fun _ _ _ h => h) (Or.inl ⟨by rfl, ?_⟩) hS ?_
  · intro w hSw
    go_split_ands
    go_simp
  try simp only [Act.put, List.getElem_toArray, List.getElem_cons_zero, List.getElem_cons_succ, List.setIfInBounds_toArray, List.set_cons_zero, List.set_cons_succ]
  refine wpAnyH_take (i := 3) (v := (.pointer (some ⟨p, 2, none⟩))) rfl (by kernel_rfl) (by kernel_rfl) (by kernel_rfl) (fun _ _ _ h => h) (Or.inl ⟨by rfl, ?_⟩) hS ?_
  · intro w hSw
    go_split_ands
    go_simp
  try simp only [Act.put, List.getElem_toArray, List.getElem_cons_zero, List.getElem_cons_succ, List.setIfInBounds_toArray, List.set_cons_zero, List.set_cons_succ]
  refine wpAnyH_take (i := 5) (v := (.pointer (some ⟨bx, 0, none⟩))) rfl (by kernel_rfl) (by kernel_rfl) (by kernel_rfl) (fun _ _ _ h => h) (Or.inl ⟨by rfl, ?_⟩) hS ?_
  · intro w hSw
    go_split_ands
    go_simp
  try simp only [Act.put, List.getElem_toArray, List.getElem_cons_zero, List.getElem_cons_succ, List.setIfInBounds_toArray, List.set_cons_zero, List.set_cons_succ]
  refine wpAnyH_take (i := 6) (v := .int .i64 x.v) rfl (by kernel_rfl) (by kernel_rfl) (by kernel_rfl) (fun _ _ _ h => h) (Or.inl ⟨by rfl, ?_⟩) hS ?_
  · intro w hSw
    go_split_ands
    go_simp
  try simp only [Act.put, List.getElem_toArray, List.getElem_cons_zero, List.getElem_cons_succ, List.setIfInBounds_toArray, List.set_cons_zero, List.set_cons_succ]
  refine wpAnyH_take (i := 7) (v := .int .i64 lo) rfl (by kernel_rfl) (by kernel_rfl) (by kernel_rfl) (fun _ _ _ h => h) (Or.inl ⟨by rfl, ?_⟩) hS ?_
  · intro w hSw
    go_split_ands
    go_simp
  try simp only [Act.put, List.getElem_toArray, List.getElem_cons_zero, List.getElem_cons_succ, List.setIfInBounds_toArray, List.set_cons_zero, List.set_cons_succ]
  refine wpAnyH_take (i := 8) (v := .int .i64 hi') rfl (by kernel_rfl) (by kernel_rfl) (by kernel_rfl) (fun _ _ _ h => h) (Or.inl ⟨by rfl, ?_⟩) hS ?_
  · intro w hSw
    go_split_ands
    go_simp
  try simp only [Act.put, List.getElem_toArray, List.getElem_cons_zero, List.getElem_cons_succ, List.setIfInBounds_toArray, List.set_cons_zero, List.set_cons_succ]
  refine wpAnyH_take (i := 9) (v := .agg (br3 x.v lo hi')) rfl (by kernel_rfl) (by kernel_rfl) (by kernel_rfl) (fun _ _ _ h => h) (Or.inl ⟨by rfl, ?_⟩) hS ?_
  · intro w hSw
    go_split_ands
    go_simp
  try simp only [Act.put, List.getElem_toArray, List.getElem_cons_zero, List.getElem_cons_succ, List.setIfInBounds_toArray, List.set_cons_zero, List.set_cons_succ]
  refine wpAnyH_ready (rs := [4, 10]) (by kernel_rfl) (by simp) ?_
  refine AllReadyH.cons rfl (fun K hK => ?_) (AllReadyH.cons rfl (fun K hK => ?_) AllReadyH.nil)
  try simp only [Act.put, List.getElem_toArray, List.getElem_cons_zero, List.getElem_cons_succ, List.setIfInBounds_toArray, List.set_cons_zero, List.set_cons_succ]
  go_simp
  refine hK.out _ _ (SX.out _ rfl) (fun hS => ?_)
  clear hK K
  try simp only [Act.put, List.getElem_toArray, List.getElem_cons_zero, List.getElem_cons_succ, List.setIfInBounds_toArray, List.set_cons_zero, List.set_cons_succ]
  refine wpAnyH_ready (rs := [10]) (by kernel_rfl) (by simp) ?_
  refine AllReadyH.cons rfl (fun K hK => ?_) AllReadyH.nil
  try simp only [Act.put, List.getElem_toArray, List.getElem_cons_zero, List.getElem_cons_succ, List.setIfInBounds_toArray, List.set_cons_zero, List.set_cons_succ]
  go_simp
  refine hK.out _ _ (SX.out _ (Below.heap_alloc _ _ bx QL.out)) (fun hS => ?_)
  clear hK K
  try simp only [Act.put, List.getElem_toArray, List.getElem_cons_zero, List.getElem_cons_succ, List.setIfInBounds_toArray, List.set_cons_zero, List.set_cons_succ]
  rotate_left
  try simp only [Act.put, List.getElem_toArray, List.getElem_cons_zero, List.getElem_cons_succ, List.setIfInBounds_toArray, List.set_cons_zero, List.set_cons_succ]
  go_simp
  refine hK.out _ _ (SX.out _ (Below.heap_alloc _ _ bx QL.out)) (fun hS => ?_)
  clear hK K
  try simp only [Act.put, List.getElem_toArray, List.getElem_cons_zero, List.getElem_cons_succ, List.setIfInBounds_toArray, List.set_cons_zero, List.set_cons_succ]
  have e2' : (w3.alloc (.cells #[.int .i64 x.v, .int .i64 lo, .int .i64 hi'] 44)).cell? ⟨p, 2, none⟩ = _ := cell_alloc e2 _
  refine wpAnyH_ready (rs := [4]) (by kernel_rfl) (by simp) ?_
  refine AllReadyH.cons rfl (fun K hK => ?_) AllReadyH.nil
  try simp only [Act.put, List.getElem_toArray, List.getElem_cons_zero, List.getElem_cons_succ, List.setIfInBounds_toArray, List.set_cons_zero, List.set_cons_succ]
  go_simp
  refine hK.out _ _ (SX.out _ (Below.heap_alloc _ _ bx QL.out)) (fun hS => ?_)
  clear hK K
  try simp only [Act.put, List.getElem_toArray, List.getElem_cons_zero, List.getElem_cons_succ, List.setIfInBounds_toArray, List.set_cons_zero, List.set_cons_succ]
  clear e2'
  all_goals
    refine wpAnyH_ready (rs := [11]) (by kernel_rfl) (by simp) ?_
    refine AllReadyH.cons rfl (fun K hK => ?_) AllReadyH.nil
    try simp only [Act.put, List.getElem_toArray, List.getElem_cons_zero, List.getElem_cons_succ, List.setIfInBounds_toArray, List.set_cons_zero, List.set_cons_succ]
    refine step_append_at (a := ⟨_, []⟩) rfl (.tmp 48) (.tmp 54) 26 rfl B 44 i0 (.agg #[.int .i64 0, .int .i64 0, .int .i64 0]) 3 24 Try.underlying26 hi0' hz0 hz1 hz2 rfl (by decide) (.slice sa s2.length sc) s2.length (bcells (table s2)) rfl RW.out ⟨w3.heap.size, 0, none⟩ 1 1 [.int .i64 x.v, .int .i64 lo, .int .i64 hi'] rfl rfl NC.out (br3_one _ _ _) (by unfold maxLen; omega) (by omega) BL.out ?_
    intro v' w4 hown4 hg4 hat4
    obtain ⟨q, hq⟩ : ∃ q, s2.length + 1 = q := ⟨_, rfl⟩
    rw [hq] at hown4
    obtain ⟨va, vc, rfl⟩ : ∃ va vc, v' = .slice va q vc := by obtain ⟨ao, cap, e, -⟩ := ownsRow_shape hown4; exact ⟨ao, cap, e⟩
    rw [show Value.slice sa s2.length sc = S2 from HSS2.out.symm] at hg4 hat4
    have aw := HI3.out.away
    have HOWN4 := Lib.hid hown4; have HG4 := Lib.hid hg4; have HAT4 := Lib.hid hat4; have HQ := Lib.hid hq
    have keep4 : ∀ k, k < w3.heap.size → S2.ownBlock ≠ some k → w4.heap[k]? = w3.heap[k]? := fun k hk hne => (hg4.block k (by show k < (w3.alloc _).heap.size; simp; omega) (fun e => hne e.symm)).trans (Below.heap_alloc w3 _ k hk)
    have K4 := Lib.hid keep4
    have h4 := (keep4 p (aw.2.2.2 p (.inl rfl)).2 aw.2.1).trans HI3.out.st
    have H4 := Lib.hid h4
    have d0 : w4.cell? ⟨p, 2, none⟩ = some S2 := by rw [cell_of_row w4 p 2 _ _ _ h4]; rfl
    have d1 := frozen_box h4 2
    have SB4 : Hid (w4.heap[bx]? = w3.heap[bx]?) := keep4 bx QL.out (fun e => A2.out (.inr (.inr e)))
    have hne : bx ≠ p := fun e => A2.out (.inl e)
    have SB5 : Hid ((w4.setCell ⟨p, 2, none⟩ (.slice va q vc)).heap[bx]? = w3.heap[bx]?) := (heap_setCell_other w4 ⟨p, 2, none⟩ bx _ hne).trans SB4.out
    clear hown4 hg4 hat4 hq keep4 h4 hne aw
    refine hK.out _ _ (SX.out _ SB4.out) (fun hS => ?_)
    clear hK K
    try simp only [Act.put, List.getElem_toArray, List.getElem_cons_zero, List.getElem_cons_succ, List.setIfInBounds_toArray, List.set_cons_zero, List.set_cons_succ]
    refine wpAnyH_take (i := 12) (v := (.pointer (some ⟨p, 0, none⟩))) rfl (by kernel_rfl) (by kernel_rfl) (by kernel_rfl) (fun _ _ _ h => h) (Or.inl ⟨by rfl, ?_⟩) hS ?_
    · intro w hSw
      go_split_ands
      go_simp
    try simp only [Act.put, List.getElem_toArray, List.getElem_cons_zero, List.getElem_cons_succ, List.setIfInBounds_toArray, List.set_cons_zero, List.set_cons_succ]
    refine wpAnyH_take (i := 13) (v := (.pointer (some ⟨p, 2, none⟩))) rfl (by kernel_rfl) (by kernel_rfl) (by kernel_rfl) (fun _ _ _ h => h) (Or.inl ⟨by rfl, ?_⟩) hS ?_
    · intro w hSw
      go_split_ands
      go_simp
    try simp only [Act.put, List.getElem_toArray, List.getElem_cons_zero, List.getElem_cons_succ, List.setIfInBounds_toArray, List.set_cons_zero, List.set_cons_succ]
    refine wpAnyH_ready (rs := [14]) (by kernel_rfl) (by simp) ?_
    refine AllReadyH.cons rfl (fun K hK => ?_) AllReadyH.nil
    try simp only [Act.put, List.getElem_toArray, List.getElem_cons_zero, List.getElem_cons_succ, List.setIfInBounds_toArray, List.set_cons_zero, List.set_cons_succ]
    go_simp
    refine hK.out _ _ (SX.out _ SB5.out) (fun hS => ?_)
    clear hK K
    try simp only [Act.put, List.getElem_toArray, List.getElem_cons_zero, List.getElem_cons_succ, List.setIfInBounds_toArray, List.set_cons_zero, List.set_cons_succ]
    refine wpAnyH_done (by kernel_rfl) ?_ _
    try simp only [Act.put, List.getElem_toArray, List.getElem_cons_zero, List.getElem_cons_succ, List.setIfInBounds_toArray, List.set_cons_zero, List.set_cons_succ]
    clear hS
    obtain ⟨w5, hw5⟩ : ∃ w5, w4.setCell ⟨p, 2, none⟩ (.slice va q vc) = w5 := ⟨_, rfl⟩
    rw [hw5]
    have h5 : w5.heap[p]? = some (.cells #[S0, .slice (some ⟨bn, 0, none⟩) ns.length ns.length, .slice va q vc] 144 (0, 0)) := by rw [← hw5, heap_setCell_same w4 p 2 _ _ _ H4.out]; rfl
    have k5 : ∀ k, k ≠ p → w5.heap[k]? = w4.heap[k]? := fun k hk => by rw [← hw5]; exact heap_setCell_other w4 ⟨p, 2, none⟩ k _ hk
    have n5 := (k5 bn (fun e => HI3.out.away.1 e.symm)).trans ((K4.out bn (HI3.out.away.2.2.2 bn (.inr (.inl rfl))).2 HI3.out.away.2.2.1).trans HI3.out.num)
    have H5 := Lib.hid h5; have N5 := Lib.hid n5; have HW5 := Lib.hid hw5; have K5 := Lib.hid k5
    have SY : Hid (∀ w' : World, w'.heap[p]? = w5.heap[p]? → w'.cell? ⟨p, 1, none⟩ = some (.slice (some ⟨bn, 0, none⟩) ns.length ns.length) ∧ w'.cell? ⟨p, 2, none⟩ = some (.slice va q vc)) := fun w' hb => by
      have hb' := hb.trans H5.out
      exact ⟨by rw [cell_of_row w' p 1 _ _ _ hb']; rfl, by rw [cell_of_row w' p 2 _ _ _ hb']; rfl⟩
    have hq0 : (q : Int) ≤ 1099511627779 := by have := HQ.out; omega
    have hq00 : (0 : Int) ≤ (q : Int) := by omega
    clear h5 k5 n5 d0 d1 e2 fp RW NC BL hw5
    go_wp2_with (fail)
    have N5d : Hid (w5.drew.heap[bn]? = some (.cells ((numL ns s2).map (Value.int .i64)).toArray 3 (0, 0))) := N5.out
    refine wp_region_held_drew (S := fun w' => w'.cell? ⟨p, 1, none⟩ = some (.slice (some ⟨bn, 0, none⟩) ns.length ns.length) ∧ w'.cell? ⟨p, 2, none⟩ = some (.slice va q vc)) (by kernel_rfl) (SY.out _ rfl) (fun hS => ?_)
    refine wpAnyH_take (i := 0) (v := (.pointer (some ⟨p, 0, none⟩))) rfl (by kernel_rfl) (by kernel_rfl) (by kernel_rfl) (fun _ _ _ h => h) (Or.inl ⟨by rfl, ?_⟩) hS ?_
    · intro w hSw
      go_split_ands
      go_simp
    try simp only [Act.put, List.getElem_toArray, List.getElem_cons_zero, List.getElem_cons_succ, List.setIfInBounds_toArray, List.set_cons_zero, List.set_cons_succ]
    refine wpAnyH_take (i := 1) (v := (.pointer (some ⟨p, 0, none⟩))) rfl (by kernel_rfl) (by kernel_rfl) (by kernel_rfl) (fun _ _ _ h => h) (Or.inl ⟨by rfl, ?_⟩) hS ?_
    · intro w hSw
      go_split_ands
      go_simp
    try simp only [Act.put, List.getElem_toArray, List.getElem_cons_zero, List.getElem_cons_succ, List.setIfInBounds_toArray, List.set_cons_zero, List.set_cons_succ]
    refine wpAnyH_take (i := 2) (v := (.pointer (some ⟨p, 1, none⟩))) rfl (by kernel_rfl) (by kernel_rfl) (by kernel_rfl) (fun _ _ _ h => h) (Or.inl ⟨by rfl, ?_⟩) hS ?_
    · intro w hSw
      go_split_ands
      go_simp
    try simp only [Act.put, List.getElem_toArray, List.getElem_cons_zero, List.getElem_cons_succ, List.setIfInBounds_toArray, List.set_cons_zero, List.set_cons_succ]
    refine wpAnyH_take (i := 3) (v := (.slice (some ⟨bn, 0, none⟩) ns.length ns.length)) rfl (by kernel_rfl) (by kernel_rfl) (by kernel_rfl) (fun _ _ _ h => h) (Or.inl ⟨by rfl, ?_⟩) hS ?_
    · intro w hSw
      go_split_ands
      go_simp
    try simp only [Act.put, List.getElem_toArray, List.getElem_cons_zero, List.getElem_cons_succ, List.setIfInBounds_toArray, List.set_cons_zero, List.set_cons_succ]
    refine wpAnyH_take (i := 4) (v := .int .i64 ((i : Int) + 2)) rfl (by kernel_rfl) (by kernel_rfl) (by kernel_rfl) (fun _ _ _ h => h) (Or.inl ⟨by rfl, ?_⟩) hS ?_
    · intro w hSw
      go_split_ands
      go_simp
    try simp only [Act.put, List.getElem_toArray, List.getElem_cons_zero, List.getElem_cons_succ, List.setIfInBounds_toArray, List.set_cons_zero, List.set_cons_succ]
    refine wpAnyH_take (i := 5) (v := .int .i64 (i : Int)) rfl (by kernel_rfl) (by kernel_rfl) (by kernel_rfl) (fun _ _ _ h => h) (Or.inl ⟨by rfl, ?_⟩) hS ?_
    · intro w hSw
      go_split_ands
      go_simp
      try exact IntWalk.i64_in _ ⟨by omega, by omega⟩
    try simp only [Act.put, List.getElem_toArray, List.getElem_cons_zero, List.getElem_cons_succ, List.setIfInBounds_toArray, List.set_cons_zero, List.set_cons_succ]
    refine wpAnyH_take (i := 6) (v := (.pointer (some ⟨p, 0, none⟩))) rfl (by kernel_rfl) (by kernel_rfl) (by kernel_rfl) (fun _ _ _ h => h) (Or.inl ⟨by rfl, ?_⟩) hS ?_
    · intro w hSw
      go_split_ands
      go_simp
    try simp only [Act.put, List.getElem_toArray, List.getElem_cons_zero, List.getElem_cons_succ, List.setIfInBounds_toArray, List.set_cons_zero, List.set_cons_succ]
    refine wpAnyH_take (i := 7) (v := (.pointer (some ⟨p, 0, none⟩))) rfl (by kernel_rfl) (by kernel_rfl) (by kernel_rfl) (fun _ _ _ h => h) (Or.inl ⟨by rfl, ?_⟩) hS ?_
    · intro w hSw
      go_split_ands
      go_simp
    try simp only [Act.put, List.getElem_toArray, List.getElem_cons_zero, List.getElem_cons_succ, List.setIfInBounds_toArray, List.set_cons_zero, List.set_cons_succ]
    refine wpAnyH_take (i := 8) (v := (.pointer (some ⟨p, 2, none⟩))) rfl (by kernel_rfl) (by kernel_rfl) (by kernel_rfl) (fun _ _ _ h => h) (Or.inl ⟨by rfl, ?_⟩) hS ?_
    · intro w hSw
      go_split_ands
      go_simp
    try simp only [Act.put, List.getElem_toArray, List.getElem_cons_zero, List.getElem_cons_succ, List.setIfInBounds_toArray, List.set_cons_zero, List.set_cons_succ]
    refine wpAnyH_take (i := 9) (v := (.slice va q vc)) rfl (by kernel_rfl) (by kernel_rfl) (by kernel_rfl) (fun _ _ _ h => h) (Or.inl ⟨by rfl, ?_⟩) hS ?_
    · intro w hSw
      go_split_ands
      go_simp
    try simp only [Act.put, List.getElem_toArray, List.getElem_cons_zero, List.getElem_cons_succ, List.setIfInBounds_toArray, List.set_cons_zero, List.set_cons_succ]
    refine wpAnyH_take (i := 10) (v := .int .i64 (q : Int)) rfl (by kernel_rfl) (by kernel_rfl) (by kernel_rfl) (fun _ _ _ h => h) (Or.inl ⟨by rfl, ?_⟩) hS ?_
    · intro w hSw
      go_split_ands
      go_simp
    try simp only [Act.put, List.getElem_toArray, List.getElem_cons_zero, List.getElem_cons_succ, List.setIfInBounds_toArray, List.set_cons_zero, List.set_cons_succ]
    refine wpAnyH_take (i := 11) (v := .int .i64 ((q : Int) + 1)) rfl (by kernel_rfl) (by kernel_rfl) (by kernel_rfl) (fun _ _ _ h => h) (Or.inl ⟨by rfl, ?_⟩) hS ?_
    · intro w hSw
      go_split_ands
      go_simp
      try exact IntWalk.i64_in _ ⟨by omega, by omega⟩
    try simp only [Act.put, List.getElem_toArray, List.getElem_cons_zero, List.getElem_cons_succ, List.setIfInBounds_toArray, List.set_cons_zero, List.set_cons_succ]
    refine wpAnyH_take (i := 12) (v := (.pointer (some ⟨bn, i, none⟩))) rfl (by kernel_rfl) (by kernel_rfl) (by kernel_rfl) (fun _ _ _ h => h) (Or.inl ⟨by rfl, ?_⟩) hS ?_
    · intro w hSw
      go_split_ands
      go_simp
    try simp only [Act.put, List.getElem_toArray, List.getElem_cons_zero, List.getElem_cons_succ, List.setIfInBounds_toArray, List.set_cons_zero, List.set_cons_succ]
    obtain ⟨u0, hu0⟩ : ∃ y, w5.cell? ⟨bn, i, none⟩ = some y := by
      rw [cell_of_row w5 bn i _ _ _ N5.out]
      exact ⟨_, Array.getElem?_eq_getElem (by simp [numL_length]; omega)⟩
    have fn := frozen_box N5.out i
    have SB6 : Hid ((w5.drew.setCell ⟨bn, i, none⟩ (.int .i64 ((q : Int) + 1))).heap[p]? = w5.heap[p]?) := heap_setCell_other w5.drew ⟨bn, i, none⟩ p _ HI3.out.away.1
    refine wpAnyH_ready (rs := [13]) (by kernel_rfl) (by simp) ?_
    refine AllReadyH.cons rfl (fun K hK => ?_) AllReadyH.nil
    try simp only [Act.put, List.getElem_toArray, List.getElem_cons_zero, List.getElem_cons_succ, List.setIfInBounds_toArray, List.set_cons_zero, List.set_cons_succ]
    go_simp
    refine hK.out _ _ (SY.out _ SB6.out) (fun hS => ?_)
    clear hK K
    try simp only [Act.put, List.getElem_toArray, List.getElem_cons_zero, List.getElem_cons_succ, List.setIfInBounds_toArray, List.set_cons_zero, List.set_cons_succ]
    refine wpAnyH_done (by kernel_rfl) ?_ _
    try simp only [Act.put, List.getElem_toArray, List.getElem_cons_zero, List.getElem_cons_succ, List.setIfInBounds_toArray, List.set_cons_zero, List.set_cons_succ]
    clear hS hu0 fn
    obtain ⟨w6, hw6⟩ : ∃ w6, w5.setCell ⟨bn, i, none⟩ (.int .i64 ((q : Int) + 1)) = w6 := ⟨_, rfl⟩
    rw [hw6]
    have h6 : w6.heap[p]? = some (.cells #[S0, .slice (some ⟨bn, 0, none⟩) ns.length ns.length, .slice va q vc] 144 (0, 0)) := by rw [← hw6]; exact (heap_setCell_other w5 ⟨bn, i, none⟩ p _ HI3.out.away.1).trans H5.out
    have HW6 := Lib.hid hw6; have H6 := Lib.hid h6
    have g2 : w6.cell? ⟨p, 2, none⟩ = some (.slice va q vc) := by rw [cell_of_row w6 p 2 _ _ _ h6]; rfl
    clear h6 hw6
    go_wp2_with (fail)
    go_ret
    have aw := HI3.out.away
    have hqq := HQ.out
    have ST : Step (WM p bn S2) w3 (WM p bn (.slice va q vc)) w6.drew := by
      have t1 : Step (WM p bn S2) w3 (WM p bn S2) w4 := (((Step.refl (WM p bn S2) w3).alloc _).drew).grown HG4.out (fun k e => .inl (.inr (.inr e)))
      have t2 : Step (WM p bn S2) w3 (WM p bn S2) w5 := by rw [← HW5.out]; exact t1.setCell (p := ⟨p, 2, none⟩) (.inl (.inl rfl)) _
      have t3 : Step (WM p bn S2) w3 (WM p bn S2) w6.drew := by rw [← HW6.out]; exact (t2.setCell (p := ⟨bn, i, none⟩) (.inl (.inr (.inl rfl))) _).drew
      refine t3.to (fun _ h => h) (fun k hk => ?_)
      rcases hk with hk | hk | hk
      · exact .inl (.inl hk)
      · exact .inl (.inr (.inl hk))
      · rcases HAT4.out with e | e
        · exact .inl (.inr (.inr (e ▸ hk)))
        · rw [e] at hk
          have hk' := Option.some.inj hk
          exact .inr (by rw [← hk']; show w3.heap.size ≤ (w3.alloc _).heap.size; simp)
    refine ⟨by rw [show (s2.length : Int) + 2 = (q : Int) + 1 by omega]; rfl, .slice va q vc, ⟨H6.out, HI3.out.src.step (ST.wide (fun k hk => (aw.2.2.2 k hk).1)), ?_, ?_, HI3.out.hp, HI3.out.hbn⟩, ST3.out.trans ST⟩
    · show w6.heap[bn]? = _
      rw [← HW6.out, heap_setCell_same w5 bn i _ _ _ N5.out, numL_set HNUM.out hi, List.map_set, List.setIfInBounds_toArray, show (s2.length : Int) + 2 = (q : Int) + 1 by omega]
    · rw [HL3.out, HTAB.out, bcells_append, hqq]
      refine ownsRow_of_block HOWN4.out (fun g hg => ?_)
      obtain ⟨cs, hc⟩ := own_type HOWN4.out hg
      have hb4 : w4.heap[bn]? = some (.cells ((numL ns s2).map (Value.int .i64)).toArray 3 (0, 0)) := (K4.out bn (aw.2.2.2 bn (.inr (.inl rfl))).2 aw.2.2.1).trans HI3.out.num
      show w6.heap[g]? = _
      rw [← HW6.out, heap_setCell_other w5 ⟨bn, i, none⟩ g _ (ne_type hc hb4 (by decide))]
      exact K5.out g (ne_type hc H4.out (by decide))

theorem rvisit_any (hw : Wf ns) (hlen : ns.length ≤ 1099511627776) : ∀ (k n : Nat), n ≤ k → n < ns.length + 2 → ∀ s : List T, Cl s → (∀ t ∈ s, t ∈ trees ns) →
    RVisDoes B ns p bn S0 n s ((tr ns n).visit s) (idx ((tr ns n).visit s) (tr ns n)) := by
  intro k
  induction k with
  | zero =>
    intro n hk hn s hc hs w S h
    obtain rfl : n = 0 := by omega
    refine (rvisit_known hw h 0 hn hlen 0 (by simp [numF])).mono ?_
    rintro e w' ⟨rfl, rfl⟩
    rw [tr_zero]
    exact ⟨rfl, S, h, Step.refl _ _⟩
  | succ k ih =>
    intro n hk hn s hc hs
    by_cases h2 : 2 ≤ n
    · obtain ⟨hok, -, h3⟩ := hw.stands hn
      obtain ⟨b, hb, e, l1, l2, p1, p2, p3, p4, p5, p6, p7⟩ := h3 h2
      by_cases hm : tr ns n ∈ s
      · intro w S h
        refine (rvisit_known hw h n hn hlen (idx s (tr ns n)) ?_).mono ?_
        · unfold numF
          rw [if_neg (by omega), if_neg (by omega), Int.toNat_natCast, if_pos ⟨by omega, hm⟩]
        · rintro e' w' ⟨rfl, rfl⟩
          have hv : (tr ns n).visit s = s := by rw [e] at hm ⊢; simp only [T.visit]; rw [if_pos hm]
          rw [hv]
          exact ⟨rfl, S, h, Step.refl _ _⟩
      · -- a branch that was not met before
        have hv : (tr ns n).visit s = (tr ns b.h.toNat).visit ((tr ns b.l.toNat).visit s) ++ [tr ns n] := by rw [e] at hm ⊢; simp only [T.visit]; rw [if_neg hm]
        have okl := (hw.stands (n := b.l.toNat) (by omega)).1
        have okh := (hw.stands (n := b.h.toNat) (by omega)).1
        obtain ⟨hc1, has1, r1, e1⟩ := T.visit_cl okl hc
        obtain ⟨hc2, has2, r2, e2⟩ := T.visit_cl okh hc1
        have hs1 := hw.visit_sub k b.l.toNat (by omega) (by omega) s hs
        have hs2 := hw.visit_sub k b.h.toNat (by omega) (by omega) _ hs1
        have hsz2 := nodup_sub_le _ _ hc2.nodup hs2
        rw [trees_length] at hsz2
        have hnew : tr ns n ∉ (tr ns b.h.toNat).visit ((tr ns b.l.toNat).visit s) := by
          have hcl := (T.visit_cl hok hc).1
          rw [hv] at hcl
          have := hcl.nodup
          rw [List.nodup_append] at this
          exact fun hmem => this.2.2 _ hmem _ (by simp) rfl
        have htab : table ((tr ns b.h.toNat).visit ((tr ns b.l.toNat).visit s) ++ [tr ns n]) = table ((tr ns b.h.toNat).visit ((tr ns b.l.toNat).visit s)) ++ [⟨b.v, idx ((tr ns b.l.toNat).visit s) (tr ns b.l.toNat), idx ((tr ns b.h.toNat).visit ((tr ns b.l.toNat).visit s)) (tr ns b.h.toNat)⟩] := by
          rw [e, table_snoc hc2 (by rw [e2]; exact has1.mono (fun x hx => List.mem_append_left _ hx)) has2]
          rw [show idx ((tr ns b.h.toNat).visit ((tr ns b.l.toNat).visit s)) (tr ns b.l.toNat) = idx ((tr ns b.l.toNat).visit s) (tr ns b.l.toNat) by rw [e2, idx_append has1]]
          rw [show ((b.v.toNat : Nat) : Int) = b.v from Int.toNat_of_nonneg p3]
        have hidx : idx ((tr ns b.h.toNat).visit ((tr ns b.l.toNat).visit s) ++ [tr ns n]) (tr ns n) = ((tr ns b.h.toNat).visit ((tr ns b.l.toNat).visit s)).length + 2 := by
          rw [e] at hnew ⊢
          simp only [idx, List.idxOf_append]
          rw [if_neg hnew]; simp
        have hnum := fun x => numF_snoc hw h2 hn hnew x
        have IHL := ih b.l.toNat (by omega) (by omega) s hc hs
        have IHH := ih b.h.toNat (by omega) (by omega) _ hc1 hs1
        rw [Int.toNat_of_nonneg p1] at IHL
        rw [Int.toNat_of_nonneg p2] at IHH
        have hnone : numF ns s (n : Int) = none := by
          unfold numF
          rw [if_neg (by omega), if_neg (by omega), Int.toNat_natCast, if_neg (fun h => hm h.2)]
        rw [hv, hidx]
        obtain ⟨i, rfl⟩ : ∃ i, n = i + 2 := ⟨n - 2, by omega⟩
        rw [show i + 2 - 2 = i by omega] at hb
        obtain ⟨hib, hbe⟩ := List.getElem?_eq_some_iff.1 hb
        have hcast : ((i + 2 : Nat) : Int) = (i : Int) + 2 := by omega
        rw [hcast] at hnum hnone
        rw [show ((((tr ns b.h.toNat).visit ((tr ns b.l.toNat).visit s)).length + 2 : Nat) : Int) = (((tr ns b.h.toNat).visit ((tr ns b.l.toNat).visit s)).length : Int) + 2 by omega, hcast]
        exact rvisit_new i hib hlen b hbe _ _ s _ _ _ IHL IHH hnone htab (by simp) hnum hsz2
    · have hcase : n = 0 ∨ n = 1 := by omega
      intro w S h
      rcases hcase with rfl | rfl
      · refine (rvisit_known hw h 0 hn hlen 0 (by simp [numF])).mono ?_
        rintro e w' ⟨rfl, rfl⟩
        rw [tr_zero]
        exact ⟨rfl, S, h, Step.refl _ _⟩
      · refine (rvisit_known hw h 1 hn hlen 1 (by simp [numF])).mono ?_
        rintro e w' ⟨rfl, rfl⟩
        rw [tr_one]
        exact ⟨rfl, S, h, Step.refl _ _⟩
end

end Go.Proofs.Ytohmibmakelclaa

namespace Go.Proofs.Ytohmibmakelclaa
set_option linter.unusedVariables false
set_option linter.unusedSimpArgs false
open Go.RowKit

theorem numL_nil (ns : List Br) : numL ns [] = List.replicate ns.length 0 := by
  apply List.ext_getElem?
  intro k
  by_cases hk : k < ns.length
  · rw [numL_get _ _ _ hk]
    have : numF ns [] ((k : Int) + 2) = none := by
      unfold numF
      rw [if_neg (by omega), if_neg (by omega), if_neg (by simp)]
    rw [this]
    simp [List.getElem?_replicate, hk]
  · rw [List.getElem?_eq_none (by rw [numL_length]; omega), List.getElem?_eq_none (by simp; omega)]

set_option maxRecDepth 100000 in
set_option maxHeartbeats 1000000 in
theorem numbered_any (w : World) (S0 : Value) (ns : List Br) (hs : Brs w NoB S0 ns) (hw : Wf ns) (hlen : ns.length ≤ 1000000000000) (n : Nat) (hn : n < ns.length + 2) :
    Calls Try.prog 105 #[S0, .int .i64 n] w fun e w' => ∃ r, e = .returned r ∧ (∀ M : Nat → Prop, (∀ b, M b → b < w.heap.size) → DgAt w' M r (tr ns n).canon) ∧ Below w.heap.size w w' := by
  obtain ⟨sa0, sc0, rfl⟩ := hs.shape
  obtain ⟨w0, b0, e0, hb0, z0, h0, B0⟩ := laid w dg0 28
  obtain ⟨ii, hii, iz0, iz1, iz2⟩ := info_parts infoi
  have hl0 : (ns.length : Int) ≤ 1000000000000 := by omega
  have hmk := run_make (P := Try.prog) w0 54 3 ii (.int .i64 0) Try.underlying54 hii iz0 .i64 .i64 (ns.length : Int) (ns.length : Int) (by omega) (Int.le_refl _) (by rw [iz2]; omega) (by omega)
  obtain ⟨q, hq⟩ : ∃ q, ns.length = q := ⟨_, rfl⟩
  rw [iz1, Int.toNat_natCast, hq] at hmk
  obtain ⟨w1, e1⟩ : ∃ w1, w0.alloc (.cells (madeCells (Value.int .i64 0).cells (q * 1)) 3) = w1 := ⟨_, rfl⟩
  rw [e1, z0] at hmk
  have h1 : w1.heap[b0 + 1]? = some (.cells (madeCells (Value.int .i64 0).cells (q * 1)) 3 (0, 0)) := by rw [← e1, ← z0]; exact heap_alloc_new w0 _
  have hcells : madeCells (Value.int .i64 0).cells (q * 1) = ((List.replicate q 0).map (Value.int .i64)).toArray := by
    apply Array.toList_inj.1
    rw [Nat.mul_one, List.map_replicate]
    exact toList_madeCells_one _ _
  rw [hcells] at h1
  have z1 : w1.heap.size = b0 + 2 := by rw [← e1]; simp [z0]
  have B1 : Below w0.heap.size w0 w1 := by rw [← e1]; exact (Below.refl _ _).alloc (Nat.le_refl _) _
  obtain ⟨w2, b2, e2, hb2, z2, h2, B2⟩ := laid w1 #[.slice sa0 q sc0, .slice (some ⟨b0 + 1, 0, none⟩) q q, .slice none 0 0] 144
  obtain rfl : b2 = b0 + 2 := by omega
  replace z2 : w2.heap.size = b0 + 3 := by omega
  clear hb2
  have B02 : Below w0.heap.size w0 w2 := B1.trans (B2.mono B1.size)
  have BW : Hid (Below w.heap.size w w2) := B0.trans (B02.mono B0.size)
  have INV : Hid (RVInv w2 b0 ns (b0 + 2) (b0 + 1) (.slice sa0 ns.length sc0) [] (.slice none 0 0)) := by
    refine ⟨by rw [hq]; exact h2, hs.step ((Step.of_below BW.out NoB).to (fun _ h => h) (fun k hk => .inr (by omega))), ?_, World.ownsRow_nil _ _ _ _, by omega, by omega⟩
    rw [numL_nil, hq]
    exact heap_below B2 h1
  have K0 := Lib.hid (heap_below B02 h0); have HB0 := Lib.hid hb0; have HW := Lib.hid hw; have HQ := Lib.hid hq
  have hq0 : (q : Int) ≤ 1000000000000 := by omega
  have hlen' : ns.length ≤ 1099511627776 := by omega
  rw [hq]
  clear hs h0 h1 h2 hcells B1 B2 B02 hii iz0 iz1 iz2 hw hl0 z2
  go_enter Try.func105, Try.ntmps105
  go_wp2_with (fail)
  have VIS := rvisit_any HW.out hlen' n n (Nat.le_refl _) hn [] .nil (fun t ht => by cases ht) w2 _ INV.out
  refine VIS.mono ?_
  rintro e w10 ⟨rfl, S', hI, hs⟩
  clear VIS
  have hsz : ((tr ns n).visit []).length ≤ ns.length + 2 := by
    have := nodup_sub_le _ _ (T.canon_cl (HW.out.stands hn).1).nodup (HW.out.visit_sub n n (Nat.le_refl _) hn [] (fun t ht => by cases ht))
    rwa [trees_length] at this
  have hty : ∀ g, S'.ownBlock = some g → g ≠ b0 := by
    intro g hg e
    subst e
    have h2 := hs.block g (by have := K0.out; rw [Array.getElem?_eq_some_iff] at this; exact this.1) (by
      rintro (h | h | h)
      · omega
      · omega
      · simp [Value.ownBlock] at h)
    obtain ⟨cs, hc⟩ := own_type hI.row hg
    exact ne_type hc (h2.trans K0.out) (by decide) rfl
  have hst := hs
  have R10 := (hs.block b0 (by have := K0.out; rw [Array.getElem?_eq_some_iff] at this; exact this.1) (by
      rintro (h | h | h)
      · omega
      · omega
      · simp [Value.ownBlock] at h)).trans K0.out
  have B10 : Hid (Below w.heap.size w w10) := by
    have h1 := BW.out
    refine h1.trans ⟨hs.os, hs.tape, hs.output, Nat.le_trans (Nat.le_refl _) (by have := hs.size; have := h1.size; omega), fun k hk => hs.block k (by have := h1.size; omega) ?_⟩
    have := HB0.out
    rintro (h | h | h)
    · omega
    · omega
    · simp [Value.ownBlock] at h
  obtain ⟨sa, sc, rfl⟩ : ∃ sa sc, S' = .slice sa ((tr ns n).visit []).length sc := by obtain ⟨ao, cap, e, -⟩ := ownsRow_shape hI.row; exact ⟨ao, cap, e⟩
  obtain ⟨-, -, c2⟩ := hI.cells
  obtain ⟨y0, y1⟩ := box2 (r := 0) (S := .slice none 0 0) R10
  have yf := frozen_box R10
  have HI := Lib.hid hI; have HTY := Lib.hid hty; have HSZ := Lib.hid hsz; have HR10 := Lib.hid R10
  have HOK := Lib.hid (HW.out.stands hn).1
  clear hI hs hst hty hsz R10
  go_wp2_with (fail)
  obtain ⟨w12, e12, P12, Q12, S12⟩ := put2 (w0 := w) (c0 := .slice sa ((tr ns n).visit []).length sc) (c1 := .int .i64 (idx ((tr ns n).visit []) (tr ns n))) HR10.out B10.out (by have := HB0.out; omega)
  rw [e12]
  obtain ⟨u0, u1⟩ := box2 P12
  refine bodyPost_ret (v := .agg #[.slice sa ((tr ns n).visit []).length sc, .int .i64 (idx ((tr ns n).visit []) (tr ns n))]) (by simp [results, Try.results105, go_sem, u0, u1]) rfl ?_
  refine ⟨_, rfl, fun M hM => ⟨canon_in HOK.out (by have := HSZ.out; omega), _, rfl, ?_⟩, Q12⟩
  have hrow : w12.ownsRow b0 44 3 (.slice sa ((tr ns n).visit []).length sc) ((tr ns n).visit []).length (bcells (table ((tr ns n).visit []))) :=
    ownsRow_of_block HI.out.row (fun g hg => S12.block g (HI.out.row.lt g hg).2 (HTY.out g hg))
  have := brs_of_own (M := M) (ns := table ((tr ns n).visit [])) (by rw [table_length]; exact hrow) (fun g hg hm => by have := (HI.out.row.lt g hg).1; have := hM g hm; have := HB0.out; omega)
  exact this

section
variable {w0 : World} {B k : Nat} {Da Db : Dg} {Sa Sb : Value} {p : Nat}

theorem rat_any (hk : k < 3) (hwa : Wf Da.nodes) (hwb : Wf Db.nodes) (hN : (Da.nodes.length + 2) * (Db.nodes.length + 2) ≤ 1099511627776) :
    ∀ m a b : Nat, a + b ≤ m → a < Da.nodes.length + 2 → b < Db.nodes.length + 2 → RatDoes w0 B k Da Db Sa Sb p a b := by
  intro m
  induction m with
  | zero =>
    intro a b hm ha hb
    obtain rfl : a = 0 := by omega
    obtain rfl : b = 0 := by omega
    exact rat_const hk false false
  | succ m ih =>
    intro a b hm ha hb
    by_cases hab : a < 2 ∧ b < 2
    · obtain ⟨x, rfl⟩ := bit_of hab.1
      obtain ⟨y, rfl⟩ := bit_of hab.2
      exact rat_const hk x y
    · obtain ⟨v, hv⟩ : ∃ v, min (tr Da.nodes a).lv (tr Db.nodes b).lv = v := ⟨_, rfl⟩
      have q0 := (hwa.stands ha).1
      have q1 := (hwb.stands hb).1
      have hv64 : v < 64 := by
        have : 2 ≤ a ∨ 2 ≤ b := by omega
        rcases this with h | h
        · have := hwa.lv_lt ha h; omega
        · have := hwb.lv_lt hb h; omega
      obtain ⟨a0, a1, ea, la0, la1, ta0, ta1, da⟩ := hwa.sides ha v hv64
      obtain ⟨b0, b1, eb, lb0, lb1, tb0, tb1, db⟩ := hwb.sides hb v hv64
      have hdec : a0 + b0 < a + b ∧ a1 + b1 < a + b := by
        have : (tr Da.nodes a).lv = v ∨ (tr Db.nodes b).lv = v := by omega
        rcases this with h | h
        · have := da h; omega
        · have := db h; omega
      have L := ih a0 b0 (by omega) (by omega) (by omega)
      have H := ih a1 b1 (by omega) (by omega) (by omega)
      have hG : ∀ (ns : List Br) (l h : Nat), Wf ns → l < ns.length + 2 → h < ns.length + 2 → Good2 k (tr Da.nodes a0) (tr Db.nodes b0) (tr ns l) → Good2 k (tr Da.nodes a1) (tr Db.nodes b1) (tr ns h) → (v < (tr ns l).lv ∧ v < (tr ns h).lv) ∧ Good2 k (tr Da.nodes a) (tr Db.nodes b) (if l = h then tr ns l else .node v (tr ns l) (tr ns h)) := by
        intro ns l h hw hl hh g0 g1
        rw [ta0, tb0] at g0
        rw [ta1, tb1] at g1
        have g0' : Good (fun x y _ => opOf k x y) ((tr Da.nodes a).side v false) ((tr Db.nodes b).side v false) ((T.leaf false).side v false) (tr ns l) := g0
        have g1' : Good (fun x y _ => opOf k x y) ((tr Da.nodes a).side v true) ((tr Db.nodes b).side v true) ((T.leaf false).side v true) (tr ns h) := g1
        obtain ⟨r1, r2⟩ := Good.step (t2 := T.leaf false) q0 q1 (show (T.leaf false).Ok from trivial) v (by have e : (T.leaf false).lv = 64 := rfl; rw [e]; have := q1.lv_le; omega) hv64 g0' g1'
        refine ⟨r1, ?_⟩
        by_cases e : l = h
        · subst e
          rw [if_pos rfl] at r2 ⊢
          exact r2
        · rw [if_neg (fun he => e (hw.inj hl hh he))] at r2
          rw [if_neg e]
          exact r2
      have hV : min (level Da.nodes (a : Int)) (level Db.nodes (b : Int)) = (v : Int) := by
        rw [hwa.lv ha, hwb.lv hb]; omega
      exact rat_new a b a0 b0 a1 b1 v (by omega) hwa hwb ha hb hN hV hv64 ea eb hdec.1 hdec.2 L H hG
end

end Go.Proofs.Ytohmibmakelclaa
