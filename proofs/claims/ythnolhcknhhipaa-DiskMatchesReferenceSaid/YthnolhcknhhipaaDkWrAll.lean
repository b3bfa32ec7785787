/-
  A write of any bytes anywhere; lists of whole numbers laid in rows of their own.
  No condition.
-/
import Derived.Test.YthnolhcknhhipaaDkData
import Derived.Test.YthnolhcknhhipaaDkSanity
namespace Go.Proofs.Ythnolhcknhhipaa
set_option linter.unusedVariables false
set_option linter.unusedSimpArgs false
open Go.RowKit

def DS.writeAny (n : Nat) (s : DS) (x : Int) (data : List Int) : Int × DS := if 0 ≤ x ∧ x < n ∧ data.length = 64 then s.write x data else (1, s)

theorem DS.writeAny_ok {s : DS} {n : Nat} (ok : s.Ok n) (x : Int) (data : List Int) : (s.writeAny n x data).2.Ok n := by
  unfold DS.writeAny
  split
  · rename_i h; exact DS.write_ok ok x h.1 h.2.1 data h.2.2
  · exact ok

theorem set_self {α : Type} (L : List α) (i : Nat) (x : α) (h : L[i]? = some x) : L.set i x = L := by
  apply List.ext_getElem?
  intro j
  by_cases hj : j = i
  · subst hj; rw [List.getElem?_set_self (List.getElem?_eq_some_iff.1 h).1, h]
  · rw [List.getElem?_set_ne (Ne.symm hj)]

theorem law_write_all {w : World} {B : Nat} {M : Nat → Prop} {L : List (Nat × DS)} (h : Disks w B M L) (i : Nat) {g : Nat} {s : DS} (hi : L[i]? = some (g, s)) {n : Nat} (ok : s.Ok n) (x : Int) (v : Value) (data : List Int) (hv : Bytes w M v data) (hwr : s.wr.length < 1073741824) :
    Calls Try.prog 14 #[.pointer (some ⟨g, 0, none⟩), .int .i64 x, v] w fun e w' => e = .returned (.int .i64 (s.writeAny n x data).1) ∧ ∃ M', Disks w' B M' (L.set i (g, (s.writeAny n x data).2)) ∧ Step M w M' w' := by
  unfold DS.writeAny
  split
  · rename_i hc
    exact law_write h i hi ok x hc.1 hc.2.1 v data hc.2.2 hv hwr
  · rename_i hc
    obtain ⟨ao, cap, rfl, -⟩ := hv
    refine (law_write_bad h i hi ok x ao data.length cap ?_).mono fun e w' ⟨he, hw⟩ => ?_
    · by_cases h1 : x < 0
      · exact .inl h1
      · by_cases h2 : (n : Int) ≤ x
        · exact .inr (.inl h2)
        · exact .inr (.inr fun h3 => hc ⟨by omega, by omega, h3⟩)
    · subst hw
      exact ⟨he, M, by rw [set_self _ _ _ hi]; exact h, Step.refl _ _⟩

/-- Whole numbers, laid in a row of their own. -/
theorem ints_alloc {w : World} {M : Nat → Prop} (hM : ∀ k, M k → k < w.heap.size) (xs : List Int) (n : Nat) (hn : xs.length = n) (hm : n ≤ maxLen) : Ints (w.alloc (.cells (xs.map (Value.int .i64)).toArray 3)) M (.slice (some ⟨w.heap.size, 0, none⟩) n n) xs := by
  subst hn
  refine ⟨_, _, rfl, Nat.le_refl _, hm, (fun h => by cases h), .inr ⟨_, 0, rfl, by simp, fun h => by have := hM _ h; omega, fun j u hu => ?_⟩⟩
  rw [World.cell?_alloc_at _ _ _ _ (by rfl)]
  simpa using hu

/-- The first m bytes of a whole block. -/
theorem bytes_head {w : World} {M : Nat → Prop} {b : Nat} {xs : List Int} (h : ByteBlock w b xs) (hM : ¬ M b) (m cap : Nat) (hc : xs.length ≤ cap) (hm : cap ≤ maxLen) : Bytes w M (.slice (some ⟨b, 0, none⟩) (xs.take m).length cap) (xs.take m) := by
  refine ⟨_, _, rfl, by simp; omega, hm, (fun h => by cases h), .inr ⟨b, 0, rfl, h.lt, hM, fun j u hu => ?_⟩⟩
  have hj : j < (xs.take m).length := by simpa using (List.getElem?_eq_some_iff.1 hu).1
  rw [Nat.zero_add, h.cell j (by simp at hj; omega), ← hu]; simp at hj ⊢; simp [hj]

theorem law_data {w : World} {B : Nat} {M : Nat → Prop} {L : List (Nat × DS)} (h : Disks w B M L) (x : OpD) (ok : x.Ok) (K : Value) :
    Calls Try.prog 28 #[x.val K] w fun e w' => ∃ b, e = .returned (.slice (some ⟨b, 0, none⟩) x.dlen x.dlen) ∧ Disks w' B M L ∧ Step M w M w' ∧ ByteBlock w' b x.data ∧ ¬ M b := by
  refine (data_any w x ok K).mono fun e w' ⟨b, he, h1, h2, h3⟩ => ⟨b, he, (h.pure h2).1, (h.pure h2).2, h1, fun hm => ?_⟩
  have := (h.2.1 b hm).2; omega

end Go.Proofs.Ythnolhcknhhipaa
