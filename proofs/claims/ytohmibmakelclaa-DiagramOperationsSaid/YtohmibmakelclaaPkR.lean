/-
  How the laws' arguments read: sets, diagrams.
  No condition.
-/
import Derived.Test.YtohmibmakelclaaPkQ
import Derived.Deep.Slices
import Derived.SizedLaws
import Derived.ShutString
import Derived.ChangeOld
namespace Go.Proofs.Ytohmibmakelclaa
set_option linter.unusedVariables false
set_option linter.unusedSimpArgs false
open Go.RowKit Go.ChangeShapes Go.WideShapes Go.ChangeAt

theorem cellsU8 : Try.prog.cellsOf 5 = 1 := by kernel_rfl
theorem cellsU8s : Try.prog.cellsOf 22 = 1 := by kernel_rfl
theorem cellsSet : Try.prog.cellsOf 24 = 2 := by kernel_rfl
theorem cellsSets : Try.prog.cellsOf 57 = 6 := by kernel_rfl

theorem okWide_array {P : Program} {w : World} {r : Reach} {base : Nat} {t e : TypeId} {n : Nat} {v : Value} (ht : P.underlying t = some (.array n e)) (h : Value.okWide P w r base t v) : ∃ cs, v = .agg cs ∧ cs.size = P.cellsOf t := by
  simp only [Value.okWide, ht] at h
  obtain ⟨cs, h1, h2, _⟩ := h
  exact ⟨cs, h1, h2⟩

section
variable {H : Type} {enc : TypeId × Value → H} {w : World} {base : Nat} {spare : Nat → Bool} {held : Bool}

/-- A list of bytes. -/
theorem open_u8s {fuel : Nat} {cs : List Value} {x : DataW H × List MemPlace} (h : DataW.trod enc Try.prog w base spare held fuel 22 cs = some x) :
    ∃ v ks, cs = [v] ∧ Bytes w NoB v ks ∧ ∀ y ∈ ks, 0 ≤ y ∧ y ≤ 255 := by
  rcases open_ints Try.underlying22 Try.underlying5 cellsU8 h with ⟨rfl, _⟩ | ⟨a, len, cap, zs, rfl, _, hl, hm, hz, rfl, hcell, hwf⟩
  · exact ⟨_, [], rfl, ⟨none, 0, rfl, Nat.le_refl _, by simp [maxLen], fun _ => ⟨rfl, rfl⟩, .inl rfl⟩, by simp⟩
  · have hlz : len ≤ zs.length := by rw [hz]; split <;> omega
    have htl : (zs.take len).length = len := by simp; omega
    refine ⟨_, zs.take len, rfl, ⟨some a, cap, by rw [htl], by rw [htl]; exact hl, hm, (fun h => by cases h), ?_⟩, fun y hy => Go.bounds_u8 (hwf y (List.mem_of_mem_take hy))⟩
    by_cases h0 : len = 0
    · left; subst h0; simp
    · right
      have h1 := hcell 0 (by omega)
      obtain ⟨b, off, sp⟩ := a
      have hspot : sp = none := by simpa [Addr.add] using World.cell?_spot h1
      subst hspot
      refine ⟨b, off, rfl, World.block_lt_of_cell? w _ (by simpa [Addr.add] using h1), fun h => h, fun j u hu => ?_⟩
      have hj : j < (zs.take len).length := by simpa using (List.getElem?_eq_some_iff.1 hu).1
      have hjz : j < zs.length := by rw [htl] at hj; omega
      have := hcell j hjz
      rw [Addr.add_lit] at this
      rw [this, ← hu]
      simp [List.getD, hjz, show j < len by omega]

set_option maxRecDepth 100000 in
/-- A set. -/
theorem open_set {fuel : Nat} {cs : List Value} {x : DataW H × List MemPlace} (h : DataW.trod enc Try.prog w base spare held fuel 24 cs = some x) (hl : cs.length = 2) :
    ∃ (v : Value) (xs : List Int) (N : Nat), cs = [v, .int .u8 (N : Int)] ∧ SetAt w (.agg #[v, .int .u8 (N : Int)]) xs N := by
  obtain ⟨xs, n', _, hd, hlc, hlx, hf⟩ := DataW.trod_struct Try.underlying24 h
  match cs, hl with
  | [c0, c1], _ =>
    have f0 := hf 0 ⟨_, 22, 0, _, _, _, _⟩ rfl
    have f1 := hf 1 ⟨_, 5, 1, _, _, _, _⟩ rfl
    match xs, hlx, hd with
    | [x0, x1], _, hd =>
      simp only [cellsU8, cellsU8s, List.drop_zero, List.drop_succ_cons, List.take_succ_cons, List.take_zero, List.getElem?_cons_zero, List.getElem?_cons_succ] at f0 f1
      obtain ⟨v, ks, e0, h0, -⟩ := open_u8s f0
      obtain ⟨y, e1, _, w1⟩ := DataW.trod_int Try.underlying5 f1
      simp only [List.cons.injEq, and_true] at e0 e1
      subst e0; subst e1
      have q := Go.bounds_u8 w1
      have e : y = ((y.toNat : Nat) : Int) := by omega
      refine ⟨c0, ks, y.toNat, by rw [← e], c0, by rw [← e], h0, by omega⟩

set_option maxRecDepth 100000 in
/-- Three sets. -/
theorem open_sets {fuel : Nat} {cs : List Value} {x : DataW H × List MemPlace} (h : DataW.trod enc Try.prog w base spare held fuel 57 cs = some x) (hl : cs.length = 6) :
    ∃ (v0 v1 v2 : Value) (x0 x1 x2 : List Int) (N0 N1 N2 : Nat), cs = [v0, .int .u8 (N0 : Int), v1, .int .u8 (N1 : Int), v2, .int .u8 (N2 : Int)] ∧ SetAt w (.agg #[v0, .int .u8 (N0 : Int)]) x0 N0 ∧ SetAt w (.agg #[v1, .int .u8 (N1 : Int)]) x1 N1 ∧ SetAt w (.agg #[v2, .int .u8 (N2 : Int)]) x2 N2 := by
  obtain ⟨xs, m, _, _, hlc, hlx, hf⟩ := DataW.trod_array Try.underlying57 h
  match cs, hl with
  | [c0, c1, c2, c3, c4, c5], _ =>
    have f0 := hf 0 (by omega)
    have f1 := hf 1 (by omega)
    have f2 := hf 2 (by omega)
    match xs, hlx with
    | [y0, y1, y2], _ =>
      simp only [cellsSet, Nat.zero_mul, Nat.one_mul, List.drop_zero, List.drop_succ_cons, List.take_succ_cons, List.take_zero, List.getElem?_cons_zero, List.getElem?_cons_succ] at f0 f1 f2
      obtain ⟨v0, x0, N0, e0, h0⟩ := open_set f0 rfl
      obtain ⟨v1, x1, N1, e1, h1⟩ := open_set f1 rfl
      obtain ⟨v2, x2, N2, e2, h2⟩ := open_set f2 rfl
      simp only [List.cons.injEq, and_true] at e0 e1 e2
      obtain ⟨rfl, rfl⟩ := e0
      obtain ⟨rfl, rfl⟩ := e1
      obtain ⟨rfl, rfl⟩ := e2
      exact ⟨_, _, _, x0, x1, x2, N0, N1, N2, rfl, h0, h1, h2⟩
end

end Go.Proofs.Ytohmibmakelclaa

namespace Go.Proofs.Ytohmibmakelclaa
set_option linter.unusedVariables false
set_option linter.unusedSimpArgs false

theorem or_pow {a v : Nat} (h : 2 ^ (v + 1) ∣ a) : a ||| 2 ^ v = a + 2 ^ v := by
  obtain ⟨m, rfl⟩ := h
  exact (Nat.two_pow_add_eq_or_of_lt (Nat.pow_lt_pow_right (by omega) (by omega)) m).symm
theorem dvd_pow_le {a i j : Nat} (h : 2 ^ j ∣ a) (hij : i ≤ j) : 2 ^ i ∣ a := Nat.dvd_trans (Nat.pow_dvd_pow 2 hij) h

theorem T.lst_dvd : ∀ (t : T), t.Ok → 2 ^ t.lv ∣ t.lst
  | .leaf b, _ => by simp [T.lst]
  | .node v l h, ok => by
    obtain ⟨h0, h1, h2, h3, h4, h5⟩ := ok
    have i1 := dvd_pow_le (T.lst_dvd l h4) (Nat.le_of_lt h1)
    have i2 := dvd_pow_le (T.lst_dvd h h5) (show v + 1 ≤ h.lv from h2)
    have i3 : 2 ^ v ∣ h.lst ||| 2 ^ v := by
      rw [or_pow i2]
      exact Nat.dvd_add (dvd_pow_le i2 (by omega)) (Nat.dvd_refl _)
    simp only [T.lst, T.lv]
    split
    · exact i3
    · split
      · exact i1
      · rcases Nat.le_total l.lst (h.lst ||| 2 ^ v) with h | h
        · rw [Nat.min_eq_left h]; exact i1
        · rw [Nat.min_eq_right h]; exact i3

theorem bits_or (a v : Nat) : bits (a ||| 2 ^ v) = upd (bits a) v true := by
  funext i
  unfold bits upd
  rw [Nat.testBit_or, Nat.testBit_two_pow]
  by_cases h : i = v
  · subst h; simp
  · rw [if_neg h]
    simp; intro h'; exact absurd h'.symm h
theorem bit_of_dvd {a v : Nat} (h : 2 ^ (v + 1) ∣ a) : bits a v = false := by
  obtain ⟨m, rfl⟩ := h
  unfold bits
  rw [Nat.testBit_two_pow_mul]
  simp
  omega

/-- The least configuration is in the set. -/
theorem T.lst_in : ∀ (t : T), t.Ok → t ≠ .leaf false → t.ev (bits t.lst) = true
  | .leaf b, _, hne => by cases b; exact absurd rfl hne; rfl
  | .node v l h, ok, _ => by
    obtain ⟨h0, h1, h2, h3, h4, h5⟩ := ok
    have d1 := dvd_pow_le (T.lst_dvd l h4) (show v + 1 ≤ l.lv from h1)
    have hi : h ≠ .leaf false → h.ev (bits (h.lst ||| 2 ^ v)) = true := fun hh => by
      rw [bits_or, T.ev_upd h5 _ _ h2]; exact T.lst_in h h5 hh
    have bi : bits (h.lst ||| 2 ^ v) v = true := by rw [bits_or]; simp [upd]
    have bl := bit_of_dvd d1
    simp only [T.lst]
    split
    · rename_i e
      subst e
      simp only [T.ev, bi, if_true]
      exact hi (fun e => h3 e.symm)
    · rename_i el
      split
      · simp only [T.ev, bl]
        exact T.lst_in l h4 el
      · rename_i eh
        rcases Nat.le_total l.lst (h.lst ||| 2 ^ v) with hle | hle
        · rw [Nat.min_eq_left hle]
          simp only [T.ev, bl]
          exact T.lst_in l h4 el
        · rw [Nat.min_eq_right hle]
          simp only [T.ev, bi, if_true]
          exact hi eh

/-- No lesser one is. -/
theorem T.lst_le : ∀ (t : T), t.Ok → ∀ k, t.ev (bits k) = true → t.lst ≤ k
  | .leaf b, _, k, _ => by simp [T.lst]
  | .node v l h, ok, k, hk => by
    obtain ⟨h0, h1, h2, h3, h4, h5⟩ := ok
    have d2 := dvd_pow_le (T.lst_dvd h h5) (show v + 1 ≤ h.lv from h2)
    simp only [T.ev] at hk
    by_cases hb : bits k v = true
    · rw [if_pos hb] at hk
      have i1 := T.lst_le h h5 k hk
      have i2 : h.lst ||| 2 ^ v ≤ k := by
        rw [or_pow d2]
        obtain ⟨m, hm⟩ := d2
        rw [hm] at i1 ⊢
        have hb' : k / 2 ^ v % 2 = 1 := by
          unfold bits at hb
          rw [Nat.testBit_eq_decide_div_mod_eq] at hb
          exact of_decide_eq_true hb
        have e1 : 2 ^ (v + 1) * m = 2 ^ v * (2 * m) := by rw [Nat.pow_succ, Nat.mul_assoc]
        rw [e1] at i1 ⊢
        have e2 : 2 * m ≤ k / 2 ^ v := by
          rw [Nat.le_div_iff_mul_le (Nat.two_pow_pos v)]; rw [Nat.mul_comm]; exact i1
        have e3 : 2 * m + 1 ≤ k / 2 ^ v := by omega
        have e4 : (2 * m + 1) * 2 ^ v ≤ k := (Nat.le_div_iff_mul_le (Nat.two_pow_pos v)).1 e3
        rw [Nat.add_mul, Nat.one_mul, Nat.mul_comm (2 * m)] at e4
        exact e4
      simp only [T.lst]
      split
      · exact i2
      · split
        · rename_i e
          subst e; cases hk
        · exact Nat.le_trans (Nat.min_le_right _ _) i2
    · rw [if_neg hb] at hk
      have i1 := T.lst_le l h4 k hk
      simp only [T.lst]
      split
      · rename_i e
        subst e; cases hk
      · split
        · exact i1
        · exact Nat.le_trans (Nat.min_le_left _ _) i1

theorem T.lst_small {n : Nat} : ∀ (t : T), t.bel n → t.lst < 2 ^ n
  | .leaf b, _ => by simp only [T.lst]; exact Nat.two_pow_pos n
  | .node v l h, hb => by
    have i1 := T.lst_small l hb.2.1
    have i2 := T.lst_small h hb.2.2
    have i3 : h.lst ||| 2 ^ v < 2 ^ n := Nat.or_lt_two_pow i2 (Nat.pow_lt_pow_right (by omega) hb.1)
    simp only [T.lst]
    split
    · exact i3
    · split
      · exact i1
      · omega

end Go.Proofs.Ytohmibmakelclaa
