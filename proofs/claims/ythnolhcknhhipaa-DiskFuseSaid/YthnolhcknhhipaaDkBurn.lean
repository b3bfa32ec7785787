/-
  How a Burn reads.
  No condition.
-/
import Derived.Test.YthnolhcknhhipaaDkOpen
namespace Go.Proofs.Ythnolhcknhhipaa
set_option linter.unusedVariables false
set_option linter.unusedSimpArgs false
open Go.RowKit Go.ChangeShapes Go.WideShapes Go.ChangeAt

theorem cellsOps : Try.prog.cellsOf 22 = 1 := by kernel_rfl

section
variable {H : Type} {enc : TypeId × Value → H} {w : World} {base : Nat} {spare : Nat → Bool} {held : Bool}

theorem open_burn {fuel : Nat} {cs : List Value} {x : DataW H × List MemPlace} (h : DataW.trod enc Try.prog w base spare held fuel 58 cs = some x) (hl : cs.length = 4) :
    ∃ v u y K ops mops ks, cs = [v, u, .int .u8 y, K] ∧ OpsAt w NoB v ops ∧ OpsAt w NoB u mops ∧ Ints w NoB K ks ∧ 0 ≤ y ∧ y ≤ 255 ∧ (∀ y ∈ ks, -9223372036854775808 ≤ y ∧ y ≤ 9223372036854775807) ∧ ((∀ n ∈ x.1.weights Try.prog 58, n ≤ reachBytes) → ks.length * 8 ≤ 140737488355328) := by
  obtain ⟨xs, n', _, hd, hlc, hlx, hf⟩ := DataW.trod_struct Try.underlying58 h
  match cs, hl with
  | [c0, c1, c2, c3], _ =>
    have f0 := hf 0 ⟨_, 22, 0, _, _, _, _⟩ rfl
    have f1 := hf 1 ⟨_, 22, 1, _, _, _, _⟩ rfl
    have f2 := hf 2 ⟨_, 5, 2, _, _, _, _⟩ rfl
    have f3 := hf 3 ⟨_, 37, 3, _, _, _, _⟩ rfl
    match xs, hlx, hd with
    | [x0, x1, x2, x3], _, hd =>
      simp only [cellsU8, cellsOps, cellsInts, List.drop_zero, List.drop_succ_cons, List.take_succ_cons, List.take_zero, List.getElem?_cons_zero, List.getElem?_cons_succ] at f0 f1 f2 f3
      obtain ⟨v, ops, e0, h0, -⟩ := open_ops f0
      obtain ⟨u, mops, e1, h1, -⟩ := open_ops f1
      obtain ⟨y, e2, _, w2⟩ := DataW.trod_int Try.underlying5 f2
      obtain ⟨K, ks, e3, h3, b3, k3⟩ := open_intlist f3
      simp only [List.cons.injEq, and_true] at e0 e1 e2 e3
      subst e0; subst e1; subst e2; subst e3
      have q2 := Go.bounds_u8 w2
      refine ⟨_, _, _, _, ops, mops, ks, rfl, h0, h1, h3, q2.1, q2.2, b3, fun hw => k3 fun n hn => hw n ?_⟩
      have hdi : x.1 = .agg [x0.1, x1.1, x2.1, x3.1] := congrArg Prod.fst hd
      rw [hdi]
      simp only [DataW.weights, Try.underlying58]
      show n ∈ DataW.weightsEach _ [_, _, _, _] [_, _, _, _]
      simp only [DataW.weightsEach, List.mem_append]
      exact .inr (.inr (.inr (.inl hn)))
end

end Go.Proofs.Ythnolhcknhhipaa
