/-
  Natural numbers as limbs: the limbs of a number, their value, their sum limb by limb.
  No condition.
-/
import Derived.Test.YtohmibmakelclaaPkA
import Derived.Test.YtohmibmakelclaaPkB
import Derived.Laws.OwnMore
import Derived.Laws.CopyOwn
namespace Go.Proofs.Ytohmibmakelclaa
set_option linter.unusedVariables false
set_option linter.unusedSimpArgs false
open Go.RowKit

/-- The limbs of a number, the last one not zero. -/
def limbs (n : Nat) : List Nat := if h : n = 0 then [] else (n % 4294967296) :: limbs (n / 4294967296)
termination_by n
decreasing_by omega
/-- The value of limbs. -/
def lval : List Nat → Nat
  | [] => 0
  | x :: r => x + 4294967296 * lval r

theorem limbs_zero : limbs 0 = [] := by unfold limbs; simp
theorem limbs_pos {n : Nat} (h : n ≠ 0) : limbs n = (n % 4294967296) :: limbs (n / 4294967296) := by rw [limbs, dif_neg h]
theorem limbs_lt : ∀ (n : Nat), ∀ x ∈ limbs n, x < 4294967296 := by
  intro n
  induction n using Nat.strongRecOn with
  | ind n ih =>
    intro x hx
    by_cases h : n = 0
    · subst h; rw [limbs_zero] at hx; cases hx
    · rw [limbs_pos h] at hx
      rcases List.mem_cons.1 hx with rfl | hx
      · omega
      · exact ih _ (by omega) x hx
theorem lval_limbs : ∀ (n : Nat), lval (limbs n) = n := by
  intro n
  induction n using Nat.strongRecOn with
  | ind n ih =>
    by_cases h : n = 0
    · subst h; rw [limbs_zero]; rfl
    · rw [limbs_pos h]
      simp only [lval]
      rw [ih _ (by omega)]
      omega
theorem limbs_len : ∀ (k n : Nat), n < 4294967296 ^ k → (limbs n).length ≤ k
  | 0, n, h => by have : n = 0 := by simpa using h
                  subst this; rw [limbs_zero]; simp
  | k + 1, n, h => by
    by_cases hn : n = 0
    · subst hn; rw [limbs_zero]; simp
    · rw [limbs_pos hn, List.length_cons]
      have := limbs_len k (n / 4294967296) (by rw [Nat.pow_succ] at h; omega)
      omega
theorem limbs_last : ∀ (n : Nat) (x : Nat), (limbs n).getLast? = some x → x ≠ 0 := by
  intro n
  induction n using Nat.strongRecOn with
  | ind n ih =>
    intro x hx
    by_cases h : n = 0
    · subst h; rw [limbs_zero] at hx; cases hx
    · rw [limbs_pos h] at hx
      by_cases h2 : n / 4294967296 = 0
      · rw [h2, limbs_zero] at hx
        have : n % 4294967296 = x := by simpa using hx
        omega
      · obtain ⟨y, l, e⟩ : ∃ y l, limbs (n / 4294967296) = y :: l := ⟨_, _, limbs_pos h2⟩
        rw [e, List.getLast?_cons_cons] at hx
        exact ih (n / 4294967296) (by omega) x (by rw [e]; exact hx)

theorem lval_append : ∀ (a b : List Nat), lval (a ++ b) = lval a + 4294967296 ^ a.length * lval b
  | [], b => by simp [lval]
  | x :: a, b => by
    simp only [List.cons_append, lval, lval_append a b, List.length_cons, Nat.pow_succ]
    rw [Nat.mul_add, Nat.add_assoc, Nat.mul_comm (4294967296 ^ a.length) 4294967296, Nat.mul_assoc]

/-- Limbs that are normal are the limbs of their value. -/
theorem limbs_lval : ∀ (xs : List Nat), (∀ x ∈ xs, x < 4294967296) → (∀ x, xs.getLast? = some x → x ≠ 0) → limbs (lval xs) = xs
  | [], _, _ => by simp [lval, limbs_zero]
  | x :: r, h1, h2 => by
    have hx := h1 x (by simp)
    have hr := limbs_lval r (fun y hy => h1 y (by simp [hy])) (fun y hy => h2 y (by
      cases r with
      | nil => cases hy
      | cons z r => rw [List.getLast?_cons_cons]; exact hy))
    simp only [lval]
    have hne : x + 4294967296 * lval r ≠ 0 := by
      intro e
      have e1 : x = 0 := by omega
      have e2 : lval r = 0 := by omega
      rw [e2, limbs_zero] at hr
      exact h2 x (by rw [← hr]; rfl) e1
    rw [limbs_pos hne, show (x + 4294967296 * lval r) % 4294967296 = x by omega, show (x + 4294967296 * lval r) / 4294967296 = lval r by omega, hr]

theorem lval_zeros : ∀ (xs : List Nat), (∀ x ∈ xs, x = 0) → lval xs = 0
  | [], _ => rfl
  | x :: r, h => by
    simp only [lval]
    rw [h x (by simp), lval_zeros r (fun y hy => h y (by simp [hy]))]

/-- Limbs without the zeros at their end. -/
theorem limbs_trim (xs : List Nat) (k : Nat) (hk : k ≤ xs.length) (h1 : ∀ x ∈ xs, x < 4294967296) (h0 : ∀ j, k ≤ j → ∀ x, xs[j]? = some x → x = 0) (hl : ∀ x, 0 < k → xs[k - 1]? = some x → x ≠ 0) : limbs (lval xs) = xs.take k := by
  have e : lval xs = lval (xs.take k) := by
    have := lval_append (xs.take k) (xs.drop k)
    rw [List.take_append_drop] at this
    rw [this, lval_zeros (xs.drop k) (fun x hx => by
      obtain ⟨j, hj, e⟩ := List.mem_iff_getElem.1 hx
      rw [List.getElem_drop] at e
      exact h0 (k + j) (by omega) x (by rw [← e]; exact List.getElem?_eq_getElem _))]
    simp
  rw [e]
  refine limbs_lval _ (fun x hx => h1 x (List.mem_of_mem_take hx)) (fun x hx => ?_)
  rw [List.getLast?_eq_getElem?] at hx
  simp only [List.length_take] at hx
  rw [Nat.min_eq_left hk] at hx
  by_cases hk0 : k = 0
  · subst hk0; simp at hx
  · refine hl x (by omega) ?_
    rw [List.getElem?_take_of_lt (by omega)] at hx
    exact hx

/-- The limbs of a sum, with a carry; the second list is not the longer one. -/
def addL : Nat → List Nat → List Nat → List Nat
  | c, [], _ => [c]
  | c, x :: a, [] => ((c + x) % 4294967296) :: addL ((c + x) / 4294967296) a []
  | c, x :: a, y :: b => ((c + x + y) % 4294967296) :: addL ((c + x + y) / 4294967296) a b

theorem addL_length : ∀ (c : Nat) (a b : List Nat), (addL c a b).length = a.length + 1
  | c, [], _ => by simp [addL]
  | c, x :: a, [] => by simp [addL, addL_length _ a []]
  | c, x :: a, y :: b => by simp [addL, addL_length _ a b]
theorem addL_val : ∀ (c : Nat) (a b : List Nat), b.length ≤ a.length → lval (addL c a b) = c + lval a + lval b
  | c, [], b, h => by have : b = [] := List.eq_nil_of_length_eq_zero (by simpa using h)
                      subst this; simp [addL, lval]
  | c, x :: a, [], h => by
    have := addL_val ((c + x) / 4294967296) a [] (by simp)
    simp only [addL, lval] at this ⊢
    rw [this]; omega
  | c, x :: a, y :: b, h => by
    have := addL_val ((c + x + y) / 4294967296) a b (by simpa using h)
    simp only [addL, lval] at this ⊢
    rw [this]; omega
theorem addL_lt : ∀ (c : Nat) (a b : List Nat), c < 4294967296 → (∀ x ∈ a, x < 4294967296) → (∀ x ∈ b, x < 4294967296) → ∀ x ∈ addL c a b, x < 4294967296
  | c, [], b, hc, _, _ => by simpa [addL] using hc
  | c, x :: a, [], hc, ha, hb => by
    have hx := ha x (by simp)
    intro z hz
    simp only [addL, List.mem_cons] at hz
    rcases hz with rfl | hz
    · omega
    · exact addL_lt ((c + x) / 4294967296) a [] (by omega) (fun y hy => ha y (by simp [hy])) hb z hz
  | c, x :: a, y :: b, hc, ha, hb => by
    have hx := ha x (by simp)
    have hy := hb y (by simp)
    intro z hz
    simp only [addL, List.mem_cons] at hz
    rcases hz with rfl | hz
    · omega
    · exact addL_lt ((c + x + y) / 4294967296) a b (by omega) (fun y hy => ha y (by simp [hy])) (fun y hy => hb y (by simp [hy])) z hz

/-- The carry behind i limbs. -/
def carryL : Nat → Nat → List Nat → List Nat → Nat
  | 0, c, _, _ => c
  | i + 1, c, a, b => carryL i ((c + a.headD 0 + b.headD 0) / 4294967296) a.tail b.tail
theorem addL_cons (c x : Nat) (a b : List Nat) : addL c (x :: a) b = ((c + x + b.headD 0) % 4294967296) :: addL ((c + x + b.headD 0) / 4294967296) a b.tail := by
  cases b <;> simp [addL]
theorem addL_drop : ∀ (i c : Nat) (a b : List Nat), i ≤ a.length → (addL c a b).drop i = addL (carryL i c a b) (a.drop i) (b.drop i)
  | 0, c, a, b, _ => by simp [carryL]
  | i + 1, c, [], b, h => by simp at h
  | i + 1, c, x :: a, b, h => by
    rw [addL_cons, List.drop_succ_cons, addL_drop i _ a b.tail (by simpa using h)]
    simp [carryL]
theorem carryL_le : ∀ (i c : Nat) (a b : List Nat), c ≤ 1 → (∀ x ∈ a, x < 4294967296) → (∀ x ∈ b, x < 4294967296) → carryL i c a b ≤ 1
  | 0, c, a, b, hc, _, _ => hc
  | i + 1, c, a, b, hc, ha, hb => by
    have h1 : a.headD 0 < 4294967296 := by cases a <;> simp at *; exact ha.1
    have h2 : b.headD 0 < 4294967296 := by cases b <;> simp at *; exact hb.1
    exact carryL_le i _ a.tail b.tail (by omega) (fun x hx => ha x (List.mem_of_mem_tail hx)) (fun x hx => hb x (List.mem_of_mem_tail hx))
/-- One limb more. -/
theorem addL_step (i : Nat) (a b : List Nat) (hi : i < a.length) :
    (addL 0 a b)[i]? = some ((carryL i 0 a b + a[i] + b.getD i 0) % 4294967296) ∧ carryL (i + 1) 0 a b = (carryL i 0 a b + a[i] + b.getD i 0) / 4294967296 := by
  have hd := addL_drop i 0 a b (by omega)
  have hd1 := addL_drop (i + 1) 0 a b (by omega)
  rw [List.drop_eq_getElem_cons hi, addL_cons] at hd
  have hb : (b.drop i).headD 0 = b.getD i 0 := by
    rw [List.getD_eq_getElem?_getD, List.headD_eq_head?_getD, List.head?_drop]
  rw [hb] at hd
  refine ⟨?_, ?_⟩
  · have : (addL 0 a b)[i]? = ((addL 0 a b).drop i)[0]? := by rw [List.getElem?_drop]; simp
    rw [this, hd]; rfl
  · have gen : ∀ (i c : Nat) (a b : List Nat), carryL (i + 1) c a b = (carryL i c a b + (a.drop i).headD 0 + (b.drop i).headD 0) / 4294967296 := by
      intro i
      induction i with
      | zero => intro c a b; simp [carryL]
      | succ i ih =>
        intro c a b
        rw [carryL, ih]
        simp [carryL]
    rw [gen, hb, List.drop_eq_getElem_cons hi]; rfl
theorem addL_end (a b : List Nat) : (addL 0 a b)[a.length]? = some (carryL a.length 0 a b) := by
  have hd := addL_drop a.length 0 a b (Nat.le_refl _)
  have : (addL 0 a b)[a.length]? = ((addL 0 a b).drop a.length)[0]? := by rw [List.getElem?_drop]; simp
  rw [this, hd]; simp [addL]

/-- A number as a slice. -/
def u32s (xs : List Nat) : List Value := xs.map (fun (x : Nat) => Value.int .u32 (x : Int))
def NatAt (w : World) (M : Nat → Prop) (v : Value) (n : Nat) : Prop := Reads w M v (limbs n).length (u32s (limbs n))
theorem u32s_length (xs : List Nat) : (u32s xs).length = xs.length := by simp [u32s]
theorem u32s_one (xs : List Nat) : ∀ v ∈ u32s xs, v.oneCell' = true := by
  intro v hv
  obtain ⟨x, -, rfl⟩ := List.mem_map.1 hv
  rfl
theorem NatAt.step {M M' : Nat → Prop} {w w' : World} {v : Value} {n : Nat} (h : NatAt w M v n) (hs : Step M w M' w') : NatAt w' M' v n := Reads.step h hs
theorem NatAt.below {w w' : World} {M : Nat → Prop} {v : Value} {n : Nat} (h : NatAt w M v n) (hb : Below w.heap.size w w') : NatAt w' M v n := h.step (Step.of_below hb M)
theorem NatAt.wide {M M' : Nat → Prop} {w : World} {v : Value} {n : Nat} (h : NatAt w M' v n) (hM : ∀ k, M k → M' k) : NatAt w M v n :=
  h.step ((Step.refl M' w).to (fun _ h => h) (fun k hk => .inl (hM k hk)))
theorem NatAt.shape {M : Nat → Prop} {w : World} {v : Value} {n : Nat} (h : NatAt w M v n) : ∃ a c, v = .slice a (limbs n).length c := by obtain ⟨a, c, e, -⟩ := h; exact ⟨a, c, e⟩
theorem NatAt.zero (w : World) (M : Nat → Prop) : NatAt w M (.slice none 0 0) 0 := ⟨none, 0, by rw [limbs_zero]; rfl, by rw [limbs_zero]; exact Nat.le_refl _, by simp [maxLen], fun _ => ⟨by rw [limbs_zero]; rfl, rfl⟩, .inl (by rw [limbs_zero]; rfl)⟩
theorem Reads.take {w : World} {M : Nat → Prop} {a : Option Addr} {n c : Nat} {xs : List Value} (h : Reads w M (.slice a n c) n xs) (k : Nat) (hk : k ≤ n) : Reads w M (.slice a k c) k (xs.take k) := by
  obtain ⟨a', c', e, h1, h2, h3, hx⟩ := h
  cases e
  refine ⟨a, c, rfl, by omega, h2, fun e => ⟨by have := (h3 e).1; omega, (h3 e).2⟩, ?_⟩
  rcases hx with rfl | ⟨b, off, ha, hb, hm, hc⟩
  · exact .inl (by simp)
  · refine .inr ⟨b, off, ha, hb, hm, fun j u hu => hc j u ?_⟩
    rw [List.getElem?_take] at hu
    split at hu
    · exact hu
    · cases hu
theorem Reads.get {w : World} {M : Nat → Prop} {a : Option Addr} {n c : Nat} {xs : List Value} (h : Reads w M (.slice a n c) n xs) {j : Nat} {u : Value} (hu : xs[j]? = some u) : ∃ b off, a = some ⟨b, off, none⟩ ∧ b < w.heap.size ∧ ¬ M b ∧ w.cell? ⟨b, off + j, none⟩ = some u := by
  obtain ⟨a', c', e, h1, h2, h3, hx⟩ := h
  cases e
  rcases hx with rfl | ⟨b, off, ha, hb, hm, hc⟩
  · simp at hu
  · exact ⟨b, off, ha, hb, hm, hc j u hu⟩
theorem u32s_get {xs : List Nat} {j : Nat} (hj : j < xs.length) : (u32s xs)[j]? = some (.int .u32 (xs[j] : Int)) := by
  simp [u32s, List.getElem?_map, List.getElem?_eq_getElem hj]

end Go.Proofs.Ytohmibmakelclaa

namespace Go.Proofs.Ytohmibmakelclaa
set_option linter.unusedVariables false
set_option linter.unusedSimpArgs false
open Go.RowKit

set_option maxRecDepth 100000 in
set_option maxHeartbeats 400000 in
theorem valid_nat (w : World) (v : Value) (n : Nat) (h : NatAt w NoB v n) (hl : (limbs n).length ≤ 1024) :
    Calls Try.prog 79 #[v] w fun e w' => e = .returned (.bool true) ∧ w = w' := by
  obtain ⟨a, c, rfl⟩ := h.shape
  obtain ⟨q, hq⟩ : ∃ q, (limbs n).length = q := ⟨_, rfl⟩
  cases q with
  | zero =>
    rw [hq]
    go_enter Try.func79, Try.ntmps79
    go_wp2_with (fail)
    go_ret
    exact ⟨rfl, rfl⟩
  | succ m =>
    have hg := u32s_get (xs := limbs n) (j := m) (by omega)
    obtain ⟨b, off, rfl, -, -, cc⟩ := h.get hg
    have hne : (limbs n)[m] ≠ 0 := limbs_last n _ (by rw [List.getLast?_eq_getElem?, show (limbs n).length - 1 = m by omega]; exact List.getElem?_eq_getElem _)
    obtain ⟨x, hx⟩ : ∃ x, (limbs n)[m] = x := ⟨_, rfl⟩
    rw [hx] at cc hne
    rw [hq] at hl ⊢
    have hne' : ((x : Int) != 0) = true := by simpa using hne
    have hm0 : (0 : Int) ≤ (m : Int) := by omega
    have hm1 : (m : Int) ≤ 1023 := by omega
    clear hg h hq hx hne
    go_enter Try.func79, Try.ntmps79
    go_wp2_with (fail)
    go_ret
    exact ⟨rfl, rfl⟩

set_option maxRecDepth 100000 in
set_option maxHeartbeats 400000 in
theorem trim_nat (w : World) (a : Option Addr) (c : Nat) (xs : List Nat) (h : Reads w NoB (.slice a xs.length c) xs.length (u32s xs)) (hx : ∀ x ∈ xs, x < 4294967296) (hl : (limbs (lval xs)).length ≤ 1024) :
    Calls Try.prog 80 #[.slice a xs.length c] w fun e w' => e = .returned (.tuple #[.slice a (limbs (lval xs)).length c, .int .i64 0]) ∧ w = w' := by
  have H := Lib.hid h; have HX := Lib.hid hx; have HL := Lib.hid hl
  have hlen : xs.length ≤ 9223372036854775807 ∧ xs.length ≤ c := by
    obtain ⟨a', c', e, h1, h2, -⟩ := h
    cases e
    unfold maxLen at h2; omega
  obtain ⟨N, hN⟩ : ∃ N, xs.length = N := ⟨_, rfl⟩
  have HN := Lib.hid hN
  rw [hN] at hlen ⊢
  obtain ⟨hlen, hNc⟩ := hlen
  clear h hx hl hN
  go_enter Try.func80, Try.ntmps80
  go_wp2_with (fail)
  have I0 : Hid (∀ j, N ≤ j → ∀ x, xs[j]? = some x → x = 0) := by
    intro j hj x hx
    rw [List.getElem?_eq_none (by have := HN.out; omega)] at hx; cases hx
  go_loopw [4] (fun i wr => wr = w ∧ ∃ k : Nat, k ≤ N ∧ i = .int .i64 k ∧ Hid (∀ j, k ≤ j → ∀ x, xs[j]? = some x → x = 0)) (fun i _ => (intOf i).toNat)
  case atStart => exact ⟨rfl, N, Nat.le_refl _, rfl, I0⟩
  case round =>
    obtain ⟨rfl, k, hk, rfl, IK⟩ := hrel
    have FIN : ∀ k, k ≤ N → Hid (∀ j, k ≤ j → ∀ x, xs[j]? = some x → x = 0) → (∀ x, 0 < k → xs[k - 1]? = some x → x ≠ 0) → (limbs (lval xs)).length = k := by
      intro k hk I hl
      have := limbs_trim xs k (by have := HN.out; omega) HX.out I.out hl
      rw [this, List.length_take]; have := HN.out; omega
    have hk0 : (0 : Int) ≤ (k : Int) := by omega
    have hkN : (k : Int) ≤ (N : Int) := by omega
    cases k with
    | zero =>
      have hlen0 := Lib.hid (FIN 0 hk IK (fun x h => absurd h (by omega)))
      clear FIN
      go_wp2_with (fail)
      go_ret2
      exact ⟨by rw [hlen0.out]; rfl, rfl⟩
    | succ m =>
      have hmx : m < xs.length := by have := HN.out; omega
      obtain ⟨b, off, rfl, -, -, cc⟩ := H.out.get (u32s_get hmx)
      have hg : xs[m]? = some xs[m] := List.getElem?_eq_getElem hmx
      obtain ⟨x, hx⟩ : ∃ x, xs[m] = x := ⟨_, rfl⟩
      rw [hx] at cc hg
      have HG := Lib.hid hg
      have hm0 : (0 : Int) ≤ (m : Int) := by omega
      have hm1 : (m : Int) < (N : Int) := by omega
      have hmc : (m : Int) + 1 ≤ (c : Int) := by omega
      clear hg hx hmx
      by_cases hx0 : x = 0
      · subst hx0
        have I' : Hid (∀ j, m ≤ j → ∀ x, xs[j]? = some x → x = 0) := by
          intro j hj x hx
          by_cases e : j = m
          · subst e; rw [HG.out] at hx; exact (Option.some.inj hx).symm
          · exact IK.out j (by omega) x hx
        clear FIN
        go_wp2_with (fail)
        go_roundw
        case rel => exact ⟨trivial, m, by omega, by go_num, I'⟩
        case measure => simp [intOf]
      · have hlen1 := Lib.hid (FIN (m + 1) hk IK (fun y _ hy => by
          rw [show m + 1 - 1 = m by omega, HG.out] at hy
          rw [← Option.some.inj hy]; exact hx0))
        have hx1 : ((x : Int) == 0) = false := by simpa using hx0
        have hm1024 : (m : Int) + 1 ≤ 1024 := by have := HL.out; have := hlen1.out; omega
        clear FIN hx0
        go_wp2_with (fail)
        go_ret2
        exact ⟨by rw [hlen1.out]; rfl, rfl⟩

end Go.Proofs.Ytohmibmakelclaa

namespace Go.Proofs.Ytohmibmakelclaa
set_option linter.unusedVariables false
set_option linter.unusedSimpArgs false
open Go.RowKit

/-- A block of limbs, read. -/
theorem reads_of_block {w : World} {g : Nat} {xs : List Nat} {t : TypeId} (h : w.heap[g]? = some (.cells (u32s xs).toArray t (0, 0))) {c : Nat} (hc : xs.length ≤ c) (hm : c ≤ maxLen) {M : Nat → Prop} (hM : ¬ M g) : Reads w M (.slice (some ⟨g, 0, none⟩) xs.length c) xs.length (u32s xs) :=
  ⟨some ⟨g, 0, none⟩, c, rfl, hc, hm, (fun e => nomatch e), .inr ⟨g, 0, rfl, by rw [Array.getElem?_eq_some_iff] at h; exact h.1, hM, fun j u hu => by
    rw [Nat.zero_add, cell_of_row w g j _ _ _ h]; simpa using hu⟩⟩
/-- .. without the zeros at its end. -/
theorem nat_of_block {w : World} {g : Nat} {xs : List Nat} {t : TypeId} (h : w.heap[g]? = some (.cells (u32s xs).toArray t (0, 0))) {c : Nat} (hc : xs.length ≤ c) (hm : c ≤ maxLen) (hx : ∀ x ∈ xs, x < 4294967296) {M : Nat → Prop} (hM : ¬ M g) (k : Nat) (hk : limbs (lval xs) = xs.take k) : NatAt w M (.slice (some ⟨g, 0, none⟩) (limbs (lval xs)).length c) (lval xs) := by
  have hkl : (limbs (lval xs)).length = min k xs.length := by rw [hk, List.length_take]
  have := (reads_of_block h hc hm hM).take (limbs (lval xs)).length (by omega)
  unfold NatAt
  have e : u32s (limbs (lval xs)) = (u32s xs).take (limbs (lval xs)).length := by
    conv => lhs; rw [hk]
    unfold u32s
    rw [← List.map_take, hkl]
    congr 1
    rcases Nat.le_total k xs.length with h | h
    · rw [Nat.min_eq_left h]
    · rw [Nat.min_eq_right h, List.take_of_length_le h, List.take_of_length_le (Nat.le_refl _)]
  rw [e]; exact this

theorem limbs_prefix (xs : List Nat) (h1 : ∀ x ∈ xs, x < 4294967296) : ∃ k, limbs (lval xs) = xs.take k := by
  have : ∀ (n : Nat) (xs : List Nat), xs.length = n → (∀ x ∈ xs, x < 4294967296) → ∃ k, limbs (lval xs) = xs.take k := by
    intro n
    induction n with
    | zero => intro xs hn _; rw [List.length_eq_zero_iff] at hn; subst hn; exact ⟨0, by simp [lval, limbs_zero]⟩
    | succ n ih =>
      intro xs hn hx
      have hne : xs ≠ [] := by rintro rfl; simp at hn
      by_cases hl : xs.getLast hne = 0
      · obtain ⟨k, hk⟩ := ih xs.dropLast (by simp [hn]) (fun x h => hx x (List.dropLast_subset xs h))
        have e : lval xs = lval xs.dropLast := by
          conv => lhs; rw [← List.dropLast_concat_getLast hne]
          rw [lval_append, hl]; simp [lval]
        refine ⟨min k n, ?_⟩
        rw [e, hk, List.dropLast_eq_take, List.take_take, hn]; simp
      · exact ⟨xs.length, by rw [List.take_length]; exact limbs_lval xs hx (fun x h => by rw [List.getLast?_eq_some_getLast hne] at h; rw [← Option.some.inj h]; exact hl)⟩
  exact this _ xs rfl h1

set_option maxRecDepth 100000 in
set_option maxHeartbeats 400000 in
theorem of_nat (w : World) (n : Nat) (hn : n < 18446744073709551616) :
    Calls Try.prog 38 #[.int .u64 (n : Int)] w fun e w' => ∃ r, e = .returned r ∧ (∀ M : Nat → Prop, (∀ b, M b → b < w.heap.size) → NatAt w' M r n) ∧ Below w.heap.size w w' := by
  obtain ⟨w0, b0, e0, hb0, z0, h0, B0⟩ := laid w #[.int .u32 ((n : Int) % 4294967296), .int .u32 ((n : Int) / 4294967296)] 75
  have K : Hid (w0.heap[b0]? = some (.cells (u32s [n % 4294967296, n / 4294967296]).toArray 75 (0, 0))) := h0
  have HB0 := Lib.hid hb0
  have BW := Lib.hid B0
  have HN := Lib.hid hn
  have hx : ∀ x ∈ [n % 4294967296, n / 4294967296], x < 4294967296 := by
    intro x hx
    simp only [List.mem_cons, List.not_mem_nil, or_false] at hx
    rcases hx with rfl | rfl <;> omega
  have hv : lval [n % 4294967296, n / 4294967296] = n := by simp [lval]; omega
  have HX := Lib.hid hx; have HV := Lib.hid hv
  have hll : (limbs (lval [n % 4294967296, n / 4294967296])).length ≤ 1024 := by rw [hv]; exact Nat.le_trans (limbs_len 2 n (by omega)) (by omega)
  have HLL := Lib.hid hll
  clear h0 B0 hx hv hll
  go_enter Try.func38, Try.ntmps38
  go_wp2_with (fail)
  refine (trim_nat w0 (some ⟨b0, 0, none⟩) 2 [n % 4294967296, n / 4294967296] (reads_of_block K.out (by simp) (by decide) (fun h => h)) HX.out HLL.out).mono ?_
  rintro e w1 ⟨rfl, rfl⟩
  go_wp2_with (fail)
  go_ret
  refine ⟨_, rfl, fun M hM => ?_, by first | exact BW.out | (rw [← HB0.out]; exact BW.out)⟩
  obtain ⟨k, hk⟩ := limbs_prefix _ HX.out
  have := nat_of_block (c := 2) K.out (by simp) (by decide) HX.out (M := M) (fun h => by have := hM _ h; have := HB0.out; omega) k hk
  rw [HV.out] at this
  rw [HV.out]
  exact this

end Go.Proofs.Ytohmibmakelclaa

namespace Go.Proofs.Ytohmibmakelclaa
set_option linter.unusedVariables false
set_option linter.unusedSimpArgs false
open Go.RowKit

theorem infou32 : (Try.prog.info? 75).map (fun i => (i.zero, i.size, i.bytes)) = some (some (.int .u32 0), 1, 4) := by kernel_rfl

theorem cast_mod3 (c x y : Nat) : (((c + x + y) % 4294967296 : Nat) : Int) = ((c : Int) + x + y) % 4294967296 := by omega
theorem cast_div3 (c x y : Nat) : (((c + x + y) / 4294967296 : Nat) : Int) = ((c : Int) + x + y) / 4294967296 := by omega
theorem cast_mod2 (c x : Nat) : (((c + x) % 4294967296 : Nat) : Int) = ((c : Int) + x) % 4294967296 := by omega
theorem cast_div2 (c x : Nat) : (((c + x) / 4294967296 : Nat) : Int) = ((c : Int) + x) / 4294967296 := by omega

/-- What the loop keeps: the limbs so far, and those to come. -/
structure AddInv (w0 w : World) (b0 : Nat) (xs ys : List Nat) (i : Nat) : Prop where
  k : w.heap[b0]? = some (.cells (u32s ((addL 0 xs ys).take i ++ (xs.drop i ++ [0]))).toArray 75 (0, 0))
  bel : Below w0.heap.size w0 w

theorem AddInv.next {w0 w : World} {b0 : Nat} {xs ys : List Nat} {i : Nat} (h : AddInv w0 w b0 xs ys i) (hb : w0.heap.size ≤ b0) (hi : i < xs.length) : AddInv w0 (w.setCell ⟨b0, i, none⟩ (.int .u32 (((carryL i 0 xs ys + xs[i] + ys.getD i 0) % 4294967296 : Nat) : Int))) b0 xs ys (i + 1) := by
  refine ⟨?_, h.bel.setCell hb _⟩
  rw [heap_setCell_same w b0 i _ _ _ h.k]
  congr 2
  have hl : ((addL 0 xs ys).take i).length = i := by rw [List.length_take, addL_length]; omega
  have h1 := (addL_step i xs ys hi).1
  have hi' : i < (addL 0 xs ys).length := by rw [addL_length]; omega
  have h2 : (addL 0 xs ys)[i] = (carryL i 0 xs ys + xs[i] + ys.getD i 0) % 4294967296 := by rw [List.getElem?_eq_getElem hi'] at h1; exact Option.some.inj h1
  rw [List.take_succ_eq_append_getElem hi', h2, List.drop_eq_getElem_cons hi]
  apply Array.toList_inj.1
  simp only [u32s, List.map_append, List.map_cons, List.setIfInBounds_toArray, List.map_nil, List.append_assoc, List.cons_append, List.nil_append]
  rw [List.set_append_right _ _ (by simp [addL_length]; omega)]
  simp [addL_length]
  rw [show i - min i (xs.length + 1) = 0 by omega]
  simp

theorem AddInv.cell {w0 w : World} {b0 : Nat} {xs ys : List Nat} {i : Nat} (h : AddInv w0 w b0 xs ys i) (hi : i ≤ xs.length) : w.cell? ⟨b0, i, none⟩ = some (.int .u32 ((xs ++ [0]).getD i 0 : Nat)) := by
  rw [cell_of_row w b0 i _ _ _ h.k]
  have hl : ((addL 0 xs ys).take i).length = i := by rw [List.length_take, addL_length]; omega
  simp only [u32s, List.map_append, List.getElem?_toArray]
  rw [List.getElem?_append_right (by simp [addL_length]; omega)]
  simp only [List.length_map, hl, Nat.sub_self]
  rw [List.getD_eq_getElem?_getD]
  rcases Nat.lt_or_ge i xs.length with h1 | h1
  · rw [List.drop_eq_getElem_cons h1, List.getElem?_append_left h1, List.getElem?_eq_getElem h1]; rfl
  · have : i = xs.length := by omega
    subst this
    simp

theorem addL_done (w0 w : World) (b0 : Nat) (xs ys : List Nat) (h : AddInv w0 w b0 xs ys xs.length) (hb : w0.heap.size ≤ b0) :
    (w.setCell ⟨b0, xs.length, none⟩ (.int .u32 (carryL xs.length 0 xs ys : Nat))).heap[b0]? = some (.cells (u32s (addL 0 xs ys)).toArray 75 (0, 0)) := by
  rw [heap_setCell_same w b0 _ _ _ _ h.k]
  congr 2
  have hi' : xs.length < (addL 0 xs ys).length := by rw [addL_length]; omega
  have h1 := addL_end xs ys
  rw [List.getElem?_eq_getElem hi'] at h1
  have h2 := Option.some.inj h1
  have e : addL 0 xs ys = (addL 0 xs ys).take xs.length ++ [carryL xs.length 0 xs ys] := by
    rw [← h2, ← List.take_succ_eq_append_getElem hi', List.take_of_length_le (by rw [addL_length]; omega)]
  apply Array.toList_inj.1
  conv => rhs; rw [e]
  simp only [u32s, List.map_append, List.map_cons, List.setIfInBounds_toArray, List.map_nil, List.drop_length, List.nil_append]
  rw [List.set_append_right _ _ (by simp [addL_length])]
  simp [addL_length]

set_option maxRecDepth 100000 in
set_option maxHeartbeats 2000000 in
theorem add_nat (w : World) (va vb : Value) (a b : Nat) (ha : NatAt w NoB va a) (hb : NatAt w NoB vb b) (la : (limbs a).length ≤ 1000) (lb : (limbs b).length ≤ 1000) (lc : (limbs (a + b)).length ≤ 1024) :
    Calls Try.prog 36 #[va, vb] w fun e w' => ∃ r, e = .returned (.tuple #[r, .int .i64 0]) ∧ (∀ M : Nat → Prop, (∀ b, M b → b < w.heap.size) → NatAt w' M r (a + b)) ∧ Below w.heap.size w w' := by
  obtain ⟨aa, ca, rfl⟩ := ha.shape
  obtain ⟨ab, cb, rfl⟩ := hb.shape
  obtain ⟨xs, hxs⟩ : ∃ xs, limbs a = xs := ⟨_, rfl⟩
  obtain ⟨ys, hys⟩ : ∃ ys, limbs b = ys := ⟨_, rfl⟩
  have RA : Hid (Reads w NoB (.slice aa xs.length ca) xs.length (u32s xs)) := by show Reads _ _ _ _ _; rw [← hxs]; exact ha
  have RB : Hid (Reads w NoB (.slice ab ys.length cb) ys.length (u32s ys)) := by show Reads _ _ _ _ _; rw [← hys]; exact hb
  have VA := valid_nat w _ a ha (by omega)
  have VB := valid_nat w _ b hb (by omega)
  rw [hxs] at VA la ⊢
  rw [hys] at VB lb ⊢
  have XA : Hid (∀ x ∈ xs, x < 4294967296) := by show ∀ x ∈ xs, _; rw [← hxs]; exact limbs_lt a
  have XB : Hid (∀ x ∈ ys, x < 4294967296) := by show ∀ x ∈ ys, _; rw [← hys]; exact limbs_lt b
  have LVA : Hid (lval xs = a) := by show _ = _; rw [← hxs]; exact lval_limbs a
  have LVB : Hid (lval ys = b) := by show _ = _; rw [← hys]; exact lval_limbs b
  have LC := Lib.hid lc; have HVA := Lib.hid VA; have HVB := Lib.hid VB
  obtain ⟨LA, hLA⟩ : ∃ LA, xs.length = LA := ⟨_, rfl⟩
  obtain ⟨LB, hLB⟩ : ∃ LB, ys.length = LB := ⟨_, rfl⟩
  rw [hLA] at RA HVA la ⊢
  rw [hLB] at RB HVB lb ⊢
  have HLA := Lib.hid hLA; have HLB := Lib.hid hLB
  clear ha hb VA VB lc hLA hLB hxs hys
  obtain ⟨b0, hb0⟩ : ∃ b0, w.heap.size = b0 := ⟨_, rfl⟩
  have HB0 := Lib.hid hb0
  obtain ⟨ii, hii, iz0, iz1, iz2⟩ := info_parts infou32
  rcases Nat.lt_or_ge LA LB with hlt | hlt
  · have hltI : (LA : Int) < (LB : Int) := by omega
    clear hlt
    have hmk := run_makeSlice (P := Try.prog) (w := w) 49 75 ii (.int .u32 0) Try.underlying49 hii iz0 .i64 .i64 ((LB : Int) + 1) ((LB : Int) + 1) (by omega) (Int.le_refl _) (by rw [iz1]; omega) (by rw [iz2]; omega) (by omega)
    obtain ⟨q, hq⟩ : ∃ q, LB + 1 = q := ⟨_, rfl⟩
    rw [iz1, show ((LB : Int) + 1).toNat = q by omega] at hmk
    obtain ⟨w3, e3⟩ : ∃ w3, w.alloc (.cells (madeCells (Value.int .u32 0).cells (q * 1)) 75) = w3 := ⟨_, rfl⟩
    rw [e3, hb0] at hmk
    have h3 : w3.heap[b0]? = some (.cells (madeCells (Value.int .u32 0).cells (q * 1)) 75 (0, 0)) := by rw [← e3, ← hb0]; exact heap_alloc_new w _
    have hcells : madeCells (Value.int .u32 0).cells (q * 1) = (u32s (List.replicate q 0)).toArray := by
      apply Array.toList_inj.1
      rw [Nat.mul_one]
      refine (toList_madeCells_one _ _).trans ?_
      simp [u32s]
    rw [hcells] at h3
    have B3 : Below w.heap.size w w3 := by rw [← e3]; exact (Below.refl _ _).alloc (Nat.le_refl _) _
    have H3 := Lib.hid h3; have BW3 := Lib.hid B3; have HQ := Lib.hid hq
    have hqI : (q : Int) = (LB : Int) + 1 := by omega
    have CN : Hid ((u32s ys).length = Nat.min LB q) := by show _ = _; rw [u32s_length, HLB.out]; exact (Nat.min_eq_left (by omega)).symm
    have CP : Hid (0 < (u32s ys).length → ∃ ad, ab = some ad ∧ ∀ j v, (u32s ys)[j]? = some v → w3.cell? (ad.add j) = some v) := by
      intro hpos
      obtain ⟨b', off', e', -, -, -⟩ := RB.out.get (j := 0) (List.getElem?_eq_getElem hpos)
      refine ⟨_, e', fun j u hu => ?_⟩
      obtain ⟨b'', off'', e'', -, -, hc⟩ := RB.out.get hu
      rw [e'] at e''
      cases e''
      rw [Addr.add_lit]
      exact cell_below B3 hc
    have CF : Hid (0 + (u32s ys).length ≤ (u32s (List.replicate q 0)).length) := by show _ ≤ _; rw [u32s_length, u32s_length, List.length_replicate, HLB.out]; omega
    clear h3 hcells B3 hq iz0 iz1 iz2 hii
    go_enter Try.func36, Try.ntmps36
    go_wp2_with (fail)
    refine HVA.out.mono ?_
    rintro e wx ⟨rfl, rfl⟩
    go_wp2_with (fail)
    refine HVB.out.mono ?_
    rintro e wx ⟨rfl, rfl⟩
    go_wp2_with (with_reducible refine wpList_copy_splice rfl (.tmp 28) (.tmp 29) _ _ rfl 75 Try.underlying49 (by kernel_rfl) (some ⟨b0, 0, none⟩) ab q q LB cb rfl rfl b0 0 (u32s (List.replicate q 0)) _ H3.out (u32s ys) CN.out (fun h => ⟨rfl, CP.out h⟩) CF.out (u32s_one _) w.heap.size w BW3.out (by have := HB0.out; omega) ?_)
    intro w4 K4 B4
    have INV : Hid (AddInv w w4 b0 ys xs 0) := by
      refine ⟨K4.out.trans ?_, by rw [HB0.out]; exact B4⟩
      congr 2
      simp only [splice, List.take_zero, List.nil_append, List.drop_zero, Nat.zero_add]
      rw [u32s_length, HLB.out]
      have : (u32s (List.replicate q 0)).drop LB = [Value.int .u32 0] := by
        rw [← HQ.out]; simp [u32s]
      rw [this]; simp [u32s]
    clear K4 B4 hmk e3
    go_wp2_with (fail)
    go_loopw [7, 33] (fun cv i wr => ∃ j : Nat, j ≤ LB ∧ cv = .int .u64 (carryL j 0 ys xs : Nat) ∧ i = .int .i64 j ∧ Hid (AddInv w wr b0 ys xs j)) (fun _ i _ => LB - (intOf i).toNat)
    case atStart => exact ⟨0, Nat.zero_le _, rfl, rfl, INV⟩
    case round =>
      clear INV
      obtain ⟨j, hj, rfl, rfl, IV⟩ := hrel
      by_cases hlt : j < LB
      · have hjx : j < ys.length := by have := HLB.out; omega
        have hcx := IV.out.cell (by omega)
        have hstep := addL_step j ys xs hjx
        have hx : (ys ++ [0]).getD j 0 = ys[j] := by rw [List.getD_eq_getElem?_getD, List.getElem?_append_left hjx, List.getElem?_eq_getElem hjx]; rfl
        rw [hx] at hcx
        have hxl := XB.out _ (List.getElem_mem hjx)
        have hcl := carryL_le j 0 ys xs (by omega) XB.out XA.out
        have hnx := IV.out.next (by have := HB0.out; omega) hjx
        obtain ⟨x, hxq⟩ : ∃ x, ys[j] = x := ⟨_, rfl⟩
        obtain ⟨c, hcq⟩ : ∃ c, carryL j 0 ys xs = c := ⟨_, rfl⟩
        have hc1 := hstep.2
        rw [hxq] at hcx hxl hnx hc1
        rw [hcq] at hcl hnx hc1
        rw [hcq]
        have hf := frozen_box IV.out.k j
        have hj0 : (0 : Int) ≤ (j : Int) := by omega
        have hj1 : (j : Int) < (LB : Int) := by omega
        have hx0 : (x : Int) < 4294967296 := by omega
        have hc0 : (c : Int) ≤ 1 := by omega
        by_cases hly : j < LA
        · have hjy : j < xs.length := by have := HLA.out; omega
          have hy : xs.getD j 0 = xs[j] := by rw [List.getD_eq_getElem?_getD, List.getElem?_eq_getElem hjy]; rfl
          rw [hy] at hnx hc1
          have hyl := XA.out _ (List.getElem_mem hjy)
          obtain ⟨bb, off, rfl, hbb, -, hcy0⟩ := RA.out.get (u32s_get hjy)
          have hcy := cell_below IV.out.bel hcy0
          obtain ⟨y, hyq⟩ : ∃ y, xs[j] = y := ⟨_, rfl⟩
          rw [hyq] at hcy hyl hnx hc1
          have hy1 : (j : Int) < (LA : Int) := by omega
          have hy0 : (y : Int) < 4294967296 := by omega
          have HNX := Lib.hid hnx; have HC1 := Lib.hid hc1
          clear hcy0 hx hstep hxq hcq hyq hy hnx hc1 hjx hjy hxl hcl hyl
          go_wp2_with (fail)
          go_roundw
          case rel =>
            refine ⟨j + 1, by omega, by rw [HC1.out]; first | rw [Nat.add_zero (c + x), cast_div2] | rw [cast_div3], by go_num, ?_⟩
            have h := HNX.out
            first | rw [cast_mod3] at h | rw [cast_mod2] at h
            exact h
          case measure => simp [intOf]; omega
        · have hy : xs.getD j 0 = 0 := by rw [List.getD_eq_getElem?_getD, List.getElem?_eq_none (by have := HLA.out; omega)]; rfl
          rw [hy, Nat.add_zero] at hnx hc1
          have hy1 : (LA : Int) ≤ (j : Int) := by omega
          have HNX := Lib.hid hnx; have HC1 := Lib.hid hc1
          clear hx hstep hxq hcq hy hnx hc1 hjx hxl hcl
          go_wp2_with (fail)
          go_roundw
          case rel =>
            refine ⟨j + 1, by omega, by rw [HC1.out]; first | rw [Nat.add_zero (c + x), cast_div2] | rw [cast_div3], by go_num, ?_⟩
            have h := HNX.out
            first | rw [cast_mod3] at h | rw [cast_mod2] at h
            exact h
          case measure => simp [intOf]; omega
      · obtain rfl : j = LB := by omega
        have IE := IV.out
        have hcx := IE.cell (by have := HLB.out; omega)
        have hcl := carryL_le j 0 ys xs (by omega) XB.out XA.out
        have hf := frozen_box IE.k j
        have hd := addL_done w wr b0 ys xs (by rw [HLB.out]; exact IE) (by have := HB0.out; omega)
        rw [HLB.out] at hd
        obtain ⟨x, hxq⟩ : ∃ x, (ys ++ [0]).getD j 0 = x := ⟨_, rfl⟩
        rw [hxq] at hcx
        obtain ⟨c, hcq⟩ : ∃ c, carryL j 0 ys xs = c := ⟨_, rfl⟩
        rw [hcq] at hcl hd ⊢
        have hc0 : (c : Int) ≤ 1 := by omega
        obtain ⟨w5, e5⟩ : ∃ w5, wr.setCell ⟨b0, j, none⟩ (.int .u32 (c : Int)) = w5 := ⟨_, rfl⟩
        rw [e5] at hd
        have BW5 : Hid (Below w.heap.size w w5) := by show Below _ _ _; rw [← e5]; exact IE.bel.setCell (by show _ ≤ b0; have := HB0.out; omega) _
        have hal : (addL 0 ys xs).length = q := by rw [addL_length, HLB.out]; exact HQ.out
        have hall := addL_lt 0 ys xs (by omega) XB.out XA.out
        have hval : lval (addL 0 ys xs) = a + b := by rw [addL_val 0 ys xs (by have := HLB.out; have := HLA.out; omega), LVA.out, LVB.out]; omega
        have T := trim_nat w5 (some ⟨b0, 0, none⟩) q (addL 0 ys xs) (by have := reads_of_block (c := q) (M := NoB) hd (by omega) (by unfold maxLen; omega) (fun h => h); exact this) hall (by rw [hval]; exact LC.out)
        obtain ⟨k, hk⟩ := limbs_prefix _ hall
        have FIN : Hid (∀ M : Nat → Prop, (∀ b, M b → b < w.heap.size) → NatAt w5 M (.slice (some ⟨b0, 0, none⟩) (limbs (a + b)).length q) (a + b)) := by
          intro M hM
          have := nat_of_block (c := q) (M := M) hd (by omega) (by unfold maxLen; omega) hall (fun h => by have := hM _ h; have := HB0.out; omega) k hk
          rw [hval] at this
          exact this
        rw [hval, hal] at T
        have HT := Lib.hid T
        clear T hd hal hall hval hk hxq hcq hcl IE IV
        go_wp2_with (fail)
        refine HT.out.mono ?_
        rintro e wx ⟨rfl, rfl⟩
        go_wp2_with (fail)
        go_ret2
        exact ⟨_, rfl, FIN.out, by first | exact BW5.out | (rw [← HB0.out]; exact BW5.out)⟩
  · have hltI : (LB : Int) ≤ (LA : Int) := by omega
    clear hlt
    have hmk := run_makeSlice (P := Try.prog) (w := w) 49 75 ii (.int .u32 0) Try.underlying49 hii iz0 .i64 .i64 ((LA : Int) + 1) ((LA : Int) + 1) (by omega) (Int.le_refl _) (by rw [iz1]; omega) (by rw [iz2]; omega) (by omega)
    obtain ⟨q, hq⟩ : ∃ q, LA + 1 = q := ⟨_, rfl⟩
    rw [iz1, show ((LA : Int) + 1).toNat = q by omega] at hmk
    obtain ⟨w3, e3⟩ : ∃ w3, w.alloc (.cells (madeCells (Value.int .u32 0).cells (q * 1)) 75) = w3 := ⟨_, rfl⟩
    rw [e3, hb0] at hmk
    have h3 : w3.heap[b0]? = some (.cells (madeCells (Value.int .u32 0).cells (q * 1)) 75 (0, 0)) := by rw [← e3, ← hb0]; exact heap_alloc_new w _
    have hcells : madeCells (Value.int .u32 0).cells (q * 1) = (u32s (List.replicate q 0)).toArray := by
      apply Array.toList_inj.1
      rw [Nat.mul_one]
      refine (toList_madeCells_one _ _).trans ?_
      simp [u32s]
    rw [hcells] at h3
    have B3 : Below w.heap.size w w3 := by rw [← e3]; exact (Below.refl _ _).alloc (Nat.le_refl _) _
    have H3 := Lib.hid h3; have BW3 := Lib.hid B3; have HQ := Lib.hid hq
    have hqI : (q : Int) = (LA : Int) + 1 := by omega
    have CN : Hid ((u32s xs).length = Nat.min LA q) := by show _ = _; rw [u32s_length, HLA.out]; exact (Nat.min_eq_left (by omega)).symm
    have CP : Hid (0 < (u32s xs).length → ∃ ad, aa = some ad ∧ ∀ j v, (u32s xs)[j]? = some v → w3.cell? (ad.add j) = some v) := by
      intro hpos
      obtain ⟨b', off', e', -, -, -⟩ := RA.out.get (j := 0) (List.getElem?_eq_getElem hpos)
      refine ⟨_, e', fun j u hu => ?_⟩
      obtain ⟨b'', off'', e'', -, -, hc⟩ := RA.out.get hu
      rw [e'] at e''
      cases e''
      rw [Addr.add_lit]
      exact cell_below B3 hc
    have CF : Hid (0 + (u32s xs).length ≤ (u32s (List.replicate q 0)).length) := by show _ ≤ _; rw [u32s_length, u32s_length, List.length_replicate, HLA.out]; omega
    clear h3 hcells B3 hq iz0 iz1 iz2 hii
    go_enter Try.func36, Try.ntmps36
    go_wp2_with (fail)
    refine HVA.out.mono ?_
    rintro e wx ⟨rfl, rfl⟩
    go_wp2_with (fail)
    refine HVB.out.mono ?_
    rintro e wx ⟨rfl, rfl⟩
    go_wp2_with (with_reducible refine wpList_copy_splice rfl (.tmp 28) (.tmp 29) _ _ rfl 75 Try.underlying49 (by kernel_rfl) (some ⟨b0, 0, none⟩) aa q q LA ca rfl rfl b0 0 (u32s (List.replicate q 0)) _ H3.out (u32s xs) CN.out (fun h => ⟨rfl, CP.out h⟩) CF.out (u32s_one _) w.heap.size w BW3.out (by have := HB0.out; omega) ?_)
    intro w4 K4 B4
    have INV : Hid (AddInv w w4 b0 xs ys 0) := by
      refine ⟨K4.out.trans ?_, by rw [HB0.out]; exact B4⟩
      congr 2
      simp only [splice, List.take_zero, List.nil_append, List.drop_zero, Nat.zero_add]
      rw [u32s_length, HLA.out]
      have : (u32s (List.replicate q 0)).drop LA = [Value.int .u32 0] := by
        rw [← HQ.out]; simp [u32s]
      rw [this]; simp [u32s]
    clear K4 B4 hmk e3
    go_wp2_with (fail)
    go_loopw [7, 33] (fun cv i wr => ∃ j : Nat, j ≤ LA ∧ cv = .int .u64 (carryL j 0 xs ys : Nat) ∧ i = .int .i64 j ∧ Hid (AddInv w wr b0 xs ys j)) (fun _ i _ => LA - (intOf i).toNat)
    case atStart => exact ⟨0, Nat.zero_le _, rfl, rfl, INV⟩
    case round =>
      clear INV
      obtain ⟨j, hj, rfl, rfl, IV⟩ := hrel
      by_cases hlt : j < LA
      · have hjx : j < xs.length := by have := HLA.out; omega
        have hcx := IV.out.cell (by omega)
        have hstep := addL_step j xs ys hjx
        have hx : (xs ++ [0]).getD j 0 = xs[j] := by rw [List.getD_eq_getElem?_getD, List.getElem?_append_left hjx, List.getElem?_eq_getElem hjx]; rfl
        rw [hx] at hcx
        have hxl := XA.out _ (List.getElem_mem hjx)
        have hcl := carryL_le j 0 xs ys (by omega) XA.out XB.out
        have hnx := IV.out.next (by have := HB0.out; omega) hjx
        obtain ⟨x, hxq⟩ : ∃ x, xs[j] = x := ⟨_, rfl⟩
        obtain ⟨c, hcq⟩ : ∃ c, carryL j 0 xs ys = c := ⟨_, rfl⟩
        have hc1 := hstep.2
        rw [hxq] at hcx hxl hnx hc1
        rw [hcq] at hcl hnx hc1
        rw [hcq]
        have hf := frozen_box IV.out.k j
        have hj0 : (0 : Int) ≤ (j : Int) := by omega
        have hj1 : (j : Int) < (LA : Int) := by omega
        have hx0 : (x : Int) < 4294967296 := by omega
        have hc0 : (c : Int) ≤ 1 := by omega
        by_cases hly : j < LB
        · have hjy : j < ys.length := by have := HLB.out; omega
          have hy : ys.getD j 0 = ys[j] := by rw [List.getD_eq_getElem?_getD, List.getElem?_eq_getElem hjy]; rfl
          rw [hy] at hnx hc1
          have hyl := XB.out _ (List.getElem_mem hjy)
          obtain ⟨bb, off, rfl, hbb, -, hcy0⟩ := RB.out.get (u32s_get hjy)
          have hcy := cell_below IV.out.bel hcy0
          obtain ⟨y, hyq⟩ : ∃ y, ys[j] = y := ⟨_, rfl⟩
          rw [hyq] at hcy hyl hnx hc1
          have hy1 : (j : Int) < (LB : Int) := by omega
          have hy0 : (y : Int) < 4294967296 := by omega
          have HNX := Lib.hid hnx; have HC1 := Lib.hid hc1
          clear hcy0 hx hstep hxq hcq hyq hy hnx hc1 hjx hjy hxl hcl hyl
          go_wp2_with (fail)
          go_roundw
          case rel =>
            refine ⟨j + 1, by omega, by rw [HC1.out]; first | rw [Nat.add_zero (c + x), cast_div2] | rw [cast_div3], by go_num, ?_⟩
            have h := HNX.out
            first | rw [cast_mod3] at h | rw [cast_mod2] at h
            exact h
          case measure => simp [intOf]; omega
        · have hy : ys.getD j 0 = 0 := by rw [List.getD_eq_getElem?_getD, List.getElem?_eq_none (by have := HLB.out; omega)]; rfl
          rw [hy, Nat.add_zero] at hnx hc1
          have hy1 : (LB : Int) ≤ (j : Int) := by omega
          have HNX := Lib.hid hnx; have HC1 := Lib.hid hc1
          clear hx hstep hxq hcq hy hnx hc1 hjx hxl hcl
          go_wp2_with (fail)
          go_roundw
          case rel =>
            refine ⟨j + 1, by omega, by rw [HC1.out]; first | rw [Nat.add_zero (c + x), cast_div2] | rw [cast_div3], by go_num, ?_⟩
            have h := HNX.out
            first | rw [cast_mod3] at h | rw [cast_mod2] at h
            exact h
          case measure => simp [intOf]; omega
      · obtain rfl : j = LA := by omega
        have IE := IV.out
        have hcx := IE.cell (by have := HLA.out; omega)
        have hcl := carryL_le j 0 xs ys (by omega) XA.out XB.out
        have hf := frozen_box IE.k j
        have hd := addL_done w wr b0 xs ys (by rw [HLA.out]; exact IE) (by have := HB0.out; omega)
        rw [HLA.out] at hd
        obtain ⟨x, hxq⟩ : ∃ x, (xs ++ [0]).getD j 0 = x := ⟨_, rfl⟩
        rw [hxq] at hcx
        obtain ⟨c, hcq⟩ : ∃ c, carryL j 0 xs ys = c := ⟨_, rfl⟩
        rw [hcq] at hcl hd ⊢
        have hc0 : (c : Int) ≤ 1 := by omega
        obtain ⟨w5, e5⟩ : ∃ w5, wr.setCell ⟨b0, j, none⟩ (.int .u32 (c : Int)) = w5 := ⟨_, rfl⟩
        rw [e5] at hd
        have BW5 : Hid (Below w.heap.size w w5) := by show Below _ _ _; rw [← e5]; exact IE.bel.setCell (by show _ ≤ b0; have := HB0.out; omega) _
        have hal : (addL 0 xs ys).length = q := by rw [addL_length, HLA.out]; exact HQ.out
        have hall := addL_lt 0 xs ys (by omega) XA.out XB.out
        have hval : lval (addL 0 xs ys) = a + b := by rw [addL_val 0 xs ys (by have := HLA.out; have := HLB.out; omega), LVA.out, LVB.out]; omega
        have T := trim_nat w5 (some ⟨b0, 0, none⟩) q (addL 0 xs ys) (by have := reads_of_block (c := q) (M := NoB) hd (by omega) (by unfold maxLen; omega) (fun h => h); exact this) hall (by rw [hval]; exact LC.out)
        obtain ⟨k, hk⟩ := limbs_prefix _ hall
        have FIN : Hid (∀ M : Nat → Prop, (∀ b, M b → b < w.heap.size) → NatAt w5 M (.slice (some ⟨b0, 0, none⟩) (limbs (a + b)).length q) (a + b)) := by
          intro M hM
          have := nat_of_block (c := q) (M := M) hd (by omega) (by unfold maxLen; omega) hall (fun h => by have := hM _ h; have := HB0.out; omega) k hk
          rw [hval] at this
          exact this
        rw [hval, hal] at T
        have HT := Lib.hid T
        clear T hd hal hall hval hk hxq hcq hcl IE IV
        go_wp2_with (fail)
        refine HT.out.mono ?_
        rintro e wx ⟨rfl, rfl⟩
        go_wp2_with (fail)
        go_ret2
        exact ⟨_, rfl, FIN.out, by first | exact BW5.out | (rw [← HB0.out]; exact BW5.out)⟩

end Go.Proofs.Ytohmibmakelclaa

namespace Go.Proofs.Ytohmibmakelclaa
set_option linter.unusedVariables false
set_option linter.unusedSimpArgs false
open Go.RowKit

set_option maxRecDepth 100000 in
set_option maxHeartbeats 1000000 in
theorem compare_same (w : World) (va vb : Value) (n : Nat) (ha : NatAt w NoB va n) (hb : NatAt w NoB vb n) (hl : (limbs n).length ≤ 1000) :
    Calls Try.prog 37 #[va, vb] w fun e w' => e = .returned (.int .i64 0) ∧ Below w.heap.size w w' := by
  obtain ⟨aa, ca, rfl⟩ := ha.shape
  obtain ⟨ab, cb, rfl⟩ := hb.shape
  obtain ⟨xs, hxs⟩ : ∃ xs, limbs n = xs := ⟨_, rfl⟩
  have RA : Hid (Reads w NoB (.slice aa xs.length ca) xs.length (u32s xs)) := by show Reads _ _ _ _ _; rw [← hxs]; exact ha
  have RB : Hid (Reads w NoB (.slice ab xs.length cb) xs.length (u32s xs)) := by show Reads _ _ _ _ _; rw [← hxs]; exact hb
  have VA := valid_nat w _ n ha (by omega)
  have VB := valid_nat w _ n hb (by omega)
  rw [hxs] at VA VB hl ⊢
  have HVA := Lib.hid VA; have HVB := Lib.hid VB
  obtain ⟨L, hL⟩ : ∃ L, xs.length = L := ⟨_, rfl⟩
  rw [hL] at RA RB HVA HVB hl ⊢
  have HL := Lib.hid hL
  clear ha hb VA VB hL hxs
  have hL0 : (L : Int) ≤ 1000 := by omega
  go_enter Try.func37, Try.ntmps37
  go_wp2_with (fail)
  refine HVA.out.mono ?_
  rintro e wx ⟨rfl, rfl⟩
  go_wp2_with (fail)
  refine HVB.out.mono ?_
  rintro e wx ⟨rfl, rfl⟩
  go_wp2_with (fail)
  have B0 : Hid (Below w.heap.size w w) := Below.refl _ _
  go_loopw [28] (fun i wr => ∃ j : Nat, j ≤ L ∧ i = .int .i64 j ∧ Hid (Below w.heap.size w wr)) (fun i _ => L - (intOf i).toNat)
  case atStart => exact ⟨0, Nat.zero_le _, rfl, B0⟩
  case round =>
    clear B0
    obtain ⟨j, hj, rfl, BR⟩ := hrel
    by_cases hlt : j < L
    · obtain ⟨p, hp⟩ : ∃ p, L = j + 1 + p := ⟨L - 1 - j, by omega⟩
      have hpx : p < xs.length := by have := HL.out; omega
      obtain ⟨b1, o1, rfl, -, -, c1⟩ := RA.out.get (u32s_get hpx)
      obtain ⟨b2, o2, rfl, -, -, c2⟩ := RB.out.get (u32s_get hpx)
      replace c1 := cell_below BR.out c1
      replace c2 := cell_below BR.out c2
      obtain ⟨x, hx⟩ : ∃ x, xs[p] = x := ⟨_, rfl⟩
      rw [hx] at c1 c2
      have hidx : (L : Int) - 1 - (j : Int) = (p : Int) := by omega
      have hp0 : (0 : Int) ≤ (p : Int) := by omega
      have hp1 : (p : Int) < (L : Int) := by omega
      have hj1 : (j : Int) < (L : Int) := by omega
      have hj0 : (0 : Int) ≤ (j : Int) := by omega
      have HP := Lib.hid hp
      clear hpx hx hp
      go_wp2_with (fail)
      go_quiet (fail)
      have B6 : Hid (Below w.heap.size w (wr.drewN nq)) := below_drewN BR.out nq
      go_wp2_with (fail)
      go_roundw
      case rel => exact ⟨j + 1, by omega, by go_num, B6⟩
      case measure => simp [intOf]; omega
    · obtain rfl : j = L := by omega
      go_wp2_with (fail)
      go_ret
      exact ⟨rfl, BR.out⟩

end Go.Proofs.Ytohmibmakelclaa
