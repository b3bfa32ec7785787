/-
  How the laws' arguments read: operations, lists of whole numbers.
  No condition.
-/
import Derived.Test.YthnolhcknhhipaaDkPrep
import Derived.Deep.Slices
import Derived.SizedLaws
import Derived.ShutString
import Derived.ChangeOld
namespace Go.Proofs.Ythnolhcknhhipaa
set_option linter.unusedVariables false
set_option linter.unusedSimpArgs false
open Go.RowKit Go.ChangeShapes Go.WideShapes Go.ChangeAt

theorem cellsOp : Try.prog.cellsOf 40 = 5 := by kernel_rfl
theorem cellsInt : Try.prog.cellsOf 3 = 1 := by kernel_rfl
theorem bytesInt : Try.prog.bytesOf 3 = 8 := by kernel_rfl
theorem cellsU8 : Try.prog.cellsOf 5 = 1 := by kernel_rfl
theorem cellsInts : Try.prog.cellsOf 37 = 1 := by kernel_rfl

section
variable {H : Type} {enc : TypeId × Value → H} {w : World} {base : Nat} {spare : Nat → Bool} {held : Bool}

/-- A list of whole numbers. -/
theorem open_intlist {fuel : Nat} {cs : List Value} {x : DataW H × List MemPlace} (h : DataW.trod enc Try.prog w base spare held fuel 37 cs = some x) :
    ∃ v ks, cs = [v] ∧ Ints w NoB v ks ∧ (∀ y ∈ ks, -9223372036854775808 ≤ y ∧ y ≤ 9223372036854775807) ∧ ((∀ n ∈ x.1.weights Try.prog 37, n ≤ reachBytes) → ks.length * 8 ≤ 140737488355328) := by
  rcases open_ints Try.underlying37 Try.underlying3 cellsInt h with ⟨rfl, _⟩ | ⟨a, len, cap, zs, rfl, _, hl, hm, hz, rfl, hcell, hwf⟩
  · exact ⟨_, [], rfl, ⟨none, 0, rfl, Nat.le_refl _, by simp [maxLen], fun _ => ⟨rfl, rfl⟩, .inl rfl⟩, by simp, by simp⟩
  · have hlz : len ≤ zs.length := by rw [hz]; split <;> omega
    have htl : (zs.take len).length = len := by simp; omega
    refine ⟨_, zs.take len, rfl, ⟨some a, cap, by rw [htl], by rw [htl]; exact hl, hm, (fun h => by cases h), ?_⟩, fun y hy => Go.bounds_i64 (hwf y (List.mem_of_mem_take hy)), fun hw => ?_⟩
    · by_cases h0 : len = 0
      · left; subst h0; simp
      · right
        have h1 := hcell 0 (by omega)
        obtain ⟨b, off, sp⟩ := a
        have hspot : sp = none := by simpa [Addr.add] using World.cell?_spot h1
        subst hspot
        refine ⟨b, off, rfl, World.block_lt_of_cell? w _ (by simpa [Addr.add] using h1), fun h => h, fun j u hu => ?_⟩
        have hj : j < (zs.take len).length := by simpa using (List.getElem?_eq_some_iff.1 hu).1
        have hjz : j < zs.length := by rw [htl] at hj; omega
        have := hcell j hjz
        rw [Addr.add_lit] at this
        rw [this, ← hu]
        simp [List.getD, hjz, show j < len by omega]
    · have := hw ((lits .i64 (zs.take len) : List (DataW H)).length * 8 + (lits .i64 (zs.drop len) : List (DataW H)).length * 8) (by
        simp only [DataW.weights, Try.underlying37, bytesInt, Nat.add_mul]
        exact List.mem_cons_self)
      simp only [lits, List.length_map, reachBytes] at this
      rw [htl] at this ⊢
      omega

/-- The operations. -/
theorem open_ops {fuel : Nat} {cs : List Value} {x : DataW H × List MemPlace} (h : DataW.trod enc Try.prog w base spare held fuel 22 cs = some x) :
    ∃ v ops, cs = [v] ∧ OpsAt w NoB v ops ∧ ((∀ n ∈ x.1.weights Try.prog 22, n ≤ reachBytes) → ∀ y ∈ ops, y.kept.length * 8 ≤ 140737488355328) := by
  rcases Deep.open_slice Try.underlying22 h with ⟨rfl, _⟩ | ⟨a, len, cap, m, n, D, Pl, rfl, _, hl, hm, hmm, rfl, hx⟩
  · exact ⟨_, [], rfl, ⟨none, 0, rfl, Nat.le_refl _, by simp [maxLen], by simp, fun i hi => by simp at hi⟩, by simp⟩
  · rw [cellsOp] at hx
    have hlm : len ≤ m := by rw [hmm]; split <;> omega
    have each : ∀ i, i < len → ∃ yK : OpD × Value, yK.1.Ok ∧ (∃ b off, a = ⟨b, off, none⟩ ∧ b < w.heap.size ∧ OpCells w b (off + i * 5) yK.1 yK.2) ∧ Ints w NoB yK.2 yK.1.kept ∧
        ((∀ n ∈ (D i).weights Try.prog 40, n ≤ reachBytes) → yK.1.kept.length * 8 ≤ 140737488355328) := by
      intro i hi
      obtain ⟨cs', h1, h2⟩ := hx i (by omega)
      obtain ⟨_, hlen, hcell⟩ := World.cells?_some h1
      obtain ⟨xs, n', _, hd, hlc, hlx, hf⟩ := DataW.trod_struct Try.underlying40 h2
      match cs', hlen with
      | [c0, c1, c2, c3, c4], _ =>
        have f0 := hf 0 ⟨_, 5, 0, _, _, _, _⟩ rfl
        have f1 := hf 1 ⟨_, 3, 1, _, _, _, _⟩ rfl
        have f2 := hf 2 ⟨_, 5, 2, _, _, _, _⟩ rfl
        have f3 := hf 3 ⟨_, 3, 3, _, _, _, _⟩ rfl
        have f4 := hf 4 ⟨_, 37, 4, _, _, _, _⟩ rfl
        match xs, hlx, hd with
        | [x0, x1, x2, x3, x4], _, hd =>
          simp only [cellsU8, cellsInt, cellsInts, List.drop_zero, List.drop_succ_cons, List.take_succ_cons, List.take_zero, List.getElem?_cons_zero, List.getElem?_cons_succ] at f0 f1 f2 f3 f4
          obtain ⟨k, e0, _, w0⟩ := DataW.trod_int Try.underlying5 f0
          obtain ⟨p, e1, _, w1⟩ := DataW.trod_int Try.underlying3 f1
          obtain ⟨b, e2, _, w2⟩ := DataW.trod_int Try.underlying5 f2
          obtain ⟨l, e3, _, w3⟩ := DataW.trod_int Try.underlying3 f3
          obtain ⟨K, ks, e4, hK, hKb, hKs⟩ := open_intlist f4
          simp only [List.cons.injEq, and_true] at e0 e1 e2 e3 e4
          subst e0; subst e1; subst e2; subst e3; subst e4
          have g0 := hcell 0 (by omega)
          have g1 := hcell 1 (by omega)
          have g2 := hcell 2 (by omega)
          have g3 := hcell 3 (by omega)
          have g4 := hcell 4 (by omega)
          obtain ⟨ab, ao, sp⟩ := a
          have hspot : sp = none := by
            have hc1 := hx 0 (by omega)
            obtain ⟨cs0, h10, h20⟩ := hc1
            obtain ⟨_, hlen0, hcell0⟩ := World.cells?_some h10
            have hc0 := hcell0 0 (by omega)
            have : ∃ u, w.cell? (⟨ab, ao, sp⟩ : Addr) = some u := by
              rw [show ((⟨ab, ao, sp⟩ : Addr).add (0 * 5)).add 0 = ⟨ab, ao, sp⟩ from rfl] at hc0
              rw [hc0, List.getElem?_eq_getElem (by omega)]
              exact ⟨_, rfl⟩
            obtain ⟨u, hu⟩ := this
            simpa using World.cell?_spot hu
          subst hspot
          simp only [Addr.add_lit, List.getElem?_cons_zero, List.getElem?_cons_succ] at g0 g1 g2 g3 g4
          have q0 := Go.bounds_u8 w0
          have q1 := Go.bounds_i64 w1
          have q2 := Go.bounds_u8 w2
          have q3 := Go.bounds_i64 w3
          refine ⟨(⟨k, p, b, l, ks⟩, c4), ⟨q0.1, q0.2, q1.1, q1.2, q2.1, q2.2, q3.1, q3.2, hKb⟩, ⟨ab, ao, rfl, World.block_lt_of_cell? w _ g0, by simpa using g0, g1, g2, g3, g4⟩, hK, fun hw => hKs fun n hn => hw n ?_⟩
          have hdi : D i = .agg [x0.1, x1.1, x2.1, x3.1, x4.1] := (Prod.mk.inj hd).1
          rw [hdi]
          simp only [DataW.weights, Try.underlying40]
          show n ∈ DataW.weightsEach _ [_, _, _, _, _] [_, _, _, _, _]
          simp only [DataW.weightsEach, List.mem_append]
          exact .inr (.inr (.inr (.inr (.inl hn))))
    obtain ⟨f, hf⟩ := @Deep.choose_lt (OpD × Value) ⟨(⟨0, 0, 0, 0, []⟩, .nilFunc)⟩ len _ each
    refine ⟨_, (List.range len).map fun i => (f i).1, rfl, ⟨some a, cap, by simp, by simpa using hl, hm, ?_, ?_⟩, ?_⟩
    · intro y hy
      obtain ⟨i, hi, rfl⟩ := List.mem_map.1 hy
      exact (hf i (List.mem_range.1 hi)).1
    · intro i hi
      have hi' : i < len := by simpa using hi
      obtain ⟨_, ⟨b, off, ha, hb, hc⟩, hK, _⟩ := hf i hi'
      exact ⟨b, off, (f i).2, by rw [ha], hb, fun h => h, by simpa using hc, by simpa using hK⟩
    · intro hw y hy
      obtain ⟨i, hi, rfl⟩ := List.mem_map.1 hy
      refine (hf i (List.mem_range.1 hi)).2.2.2 fun n hn => hw n ?_
      simp only [DataW.weights, Try.underlying22]
      refine List.mem_cons_of_mem _ (List.mem_append_left _ ?_)
      have hmem : ∀ (l : List (DataW H)) (d : DataW H), d ∈ l → n ∈ d.weights Try.prog 40 → n ∈ DataW.weightsAll Try.prog 40 l := by
        intro l
        induction l with
        | nil => intro d hd; simp at hd
        | cons e l ih =>
          intro d hd hn
          simp only [DataW.weightsAll, List.mem_append]
          rcases List.mem_cons.1 hd with rfl | hd
          · exact .inl hn
          · exact .inr (ih d hd hn)
      exact hmem _ (D i) (List.mem_map.2 ⟨i, hi, rfl⟩) hn
end

end Go.Proofs.Ythnolhcknhhipaa
