/-
  The reference's Write.
  Condition: fewer than 2^30 writes are pending.
-/
import Derived.Test.YthnolhcknhhipaaDkRefE
namespace Go.Proofs.Ythnolhcknhhipaa
set_option linter.unusedVariables false
set_option linter.unusedSimpArgs false
open Go.RowKit

/-- The cells of a slice of pending writes. -/
def pc : List (Int × List Int) → List Value → List Value
  | p :: l, u :: us => .int .i64 p.1 :: u :: pc l us
  | _, _ => []

theorem pc_length : ∀ (l : List (Int × List Int)) (us : List Value), us.length = l.length → (pc l us).length = l.length * 2
  | [], _, _ => rfl
  | p :: l, [], h => by simp at h
  | p :: l, u :: us, h => by
    have := pc_length l us (by simpa using h)
    simp only [pc, List.length_cons, this]; omega

theorem pc_get : ∀ (l : List (Int × List Int)) (us : List Value), us.length = l.length → ∀ i (h1 : i < l.length) (h2 : i < us.length), (pc l us)[i * 2]? = some (.int .i64 l[i].1) ∧ (pc l us)[i * 2 + 1]? = some us[i]
  | [], _, _, i, h1, _ => by simp at h1
  | p :: l, [], h, _, _, _ => by simp at h
  | p :: l, u :: us, h, 0, _, _ => by simp [pc]
  | p :: l, u :: us, h, i + 1, h1, h2 => by
    have := pc_get l us (by simpa using h) i (by simpa using h1) (by simpa using h2)
    simp only [pc]
    rw [show (i + 1) * 2 = i * 2 + 2 by omega, show i * 2 + 2 + 1 = (i * 2 + 1) + 2 by omega]
    simpa using this

theorem pc_snoc : ∀ (l : List (Int × List Int)) (us : List Value), us.length = l.length → ∀ p u, pc (l ++ [p]) (us ++ [u]) = pc l us ++ [.int .i64 p.1, u]
  | [], [], _, p, u => rfl
  | [], u :: us, h, _, _ => by simp at h
  | p :: l, [], h, _, _ => by simp at h
  | q :: l, x :: us, h, p, u => by
    have := pc_snoc l us (by simpa using h) p u
    simp [pc, this]

theorem pc_mem (l : List (Int × List Int)) (us : List Value) (h : us.length = l.length) (j : Nat) (u : Value) (hj : (pc l us)[j]? = some u) :
    ∃ i, ∃ (h1 : i < l.length) (h2 : i < us.length), (j = i * 2 ∧ u = .int .i64 l[i].1) ∨ (j = i * 2 + 1 ∧ u = us[i]) := by
  have hl := pc_length l us h
  have hlt : j < l.length * 2 := by rw [← hl]; exact (List.getElem?_eq_some_iff.1 hj).1
  have h1 : j / 2 < l.length := by omega
  have h2 : j / 2 < us.length := by omega
  obtain ⟨g1, g2⟩ := pc_get l us h (j / 2) h1 h2
  refine ⟨j / 2, h1, h2, ?_⟩
  rcases Nat.mod_two_eq_zero_or_one j with hm | hm
  · have e : j = j / 2 * 2 := by omega
    rw [← e] at g1
    exact .inl ⟨e, by rw [hj] at g1; exact Option.some.inj g1⟩
  · have e : j = j / 2 * 2 + 1 := by omega
    rw [← e] at g2
    exact .inr ⟨e, by rw [hj] at g2; exact Option.some.inj g2⟩

/-- What the slices of pending writes hold. -/
theorem Pend.us {w : World} {M : Nat → Prop} {ao : Option Addr} {m cap : Nat} {l : List (Int × List Int)} (h : Pend w M (.slice ao m cap) l) :
    ∃ us : List Value, us.length = l.length ∧ m = l.length ∧ (ao = none → m = 0 ∧ cap = 0) ∧ (∀ ad, ao = some ad → ∀ j u, (pc l us)[j]? = some u → w.cell? (ad.add j) = some u) ∧ ∀ i (h1 : i < us.length) (h2 : i < l.length), Bytes w M us[i] l[i].2 ∧ us[i].oneCell' = true := by
  obtain ⟨ao', cap', hv, hc, hm, h0, hx⟩ := h
  injection hv with e1 e2 e3
  subst e1; subst e2; subst e3
  have each : ∀ i, i < l.length → ∃ u : Value, (∀ b off sp, ao = some ⟨b, off, sp⟩ → sp = none ∧ ∀ (h2 : i < l.length), w.cell? ⟨b, off + i * 2, none⟩ = some (.int .i64 l[i].1) ∧ w.cell? ⟨b, off + i * 2 + 1, none⟩ = some u) ∧ ∀ (h2 : i < l.length), Bytes w M u l[i].2 := by
    intro i hi
    obtain ⟨b', off', u, e, -, -, hcell, hcell2, hu⟩ := hx i hi
    refine ⟨u, fun b off sp e' => ?_, fun _ => hu⟩
    rw [e] at e'; cases e'
    exact ⟨rfl, fun _ => ⟨hcell, hcell2⟩⟩
  obtain ⟨f, hf⟩ := @Deep.choose_lt Value ⟨.nilFunc⟩ l.length _ each
  have hul : ((List.range l.length).map f).length = l.length := by simp
  refine ⟨(List.range l.length).map f, hul, rfl, h0, fun ad had j u hu => ?_, fun i h1 h2 => ?_⟩
  · obtain ⟨b, off, sp⟩ := ad
    obtain ⟨i, h1, h2, hc⟩ := pc_mem l _ hul j u hu
    obtain ⟨rfl, hcell⟩ := (hf i h1).1 b off sp had
    obtain ⟨c1, c2⟩ := hcell h1
    rw [Addr.add_lit]
    rcases hc with ⟨rfl, rfl⟩ | ⟨rfl, rfl⟩
    · exact c1
    · rw [← Nat.add_assoc, c2]; simp
  · have := (hf i h2).2 h2
    simp only [List.getElem_map, List.getElem_range]
    refine ⟨this, ?_⟩
    obtain ⟨ao, cap, hv, -⟩ := this
    rw [hv]; rfl

theorem pc_one (l : List (Int × List Int)) (us : List Value) (h : us.length = l.length) (ho : ∀ i (h1 : i < us.length), us[i].oneCell' = true) : ∀ u ∈ pc l us, u.oneCell' = true := by
  intro u hu
  obtain ⟨j, hj⟩ := List.getElem?_of_mem hu
  obtain ⟨i, h1, h2, hc⟩ := pc_mem l us h j u hj
  rcases hc with ⟨-, rfl⟩ | ⟨-, rfl⟩
  · rfl
  · exact ho i h2

/-- An owned row of pending writes. -/
theorem pend_of_own {w : World} {M : Nat → Prop} {base : Nat} {v : Value} {l : List (Int × List Int)} {us : List Value} (h : w.ownsRow base 72 2 v l.length (pc l us)) (hu : us.length = l.length) (hM : ∀ b, v.ownBlock = some b → ¬ M b)
    (hb : ∀ i (h1 : i < us.length) (h2 : i < l.length), Bytes w M us[i] l[i].2) : Pend w M v l := by
  obtain ⟨ao, cap, rfl, hc, hm, h0, hx⟩ := ownsRow_shape h
  refine ⟨ao, cap, rfl, hc, hm, h0, fun i hi => ?_⟩
  cases ao with
  | none => have := (h0 rfl).1; omega
  | some ad =>
    obtain ⟨b, off, sp⟩ := ad
    obtain ⟨e1, e2, e3, e4⟩ := hx _ rfl
    simp only at e1 e2 e3
    subst e1; subst e2
    obtain ⟨g1, g2⟩ := pc_get l us hu i hi (by omega)
    have c1 := e4 _ _ g1
    have c2 := e4 _ _ g2
    rw [Addr.add_lit, Nat.zero_add] at c1 c2
    exact ⟨b, 0, us[i], rfl, (h.lt b e3).2, hM b e3, by rw [Nat.zero_add]; exact c1, by rw [Nat.zero_add]; exact c2, hb i (by omega) hi⟩

end Go.Proofs.Ythnolhcknhhipaa
