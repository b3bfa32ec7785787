/-
  A disk as data: what its operations compute. Plain lists.
  No condition.
-/
import Derived.Test.YthnolhcknhhipaaDk
namespace Go.Proofs.Ythnolhcknhhipaa
set_option linter.unusedVariables false
set_option linter.unusedSimpArgs false

/-- A sector of the durable bytes. -/
def sect (dur : List Int) (k : Nat) : List Int := (dur.drop (64 * k)).take 64
/-- What a read finds: the durable bytes, or the last write. -/
def readFold (base : List Int) (l : List (Int × List Int)) (k : Int) : List Int := l.foldl (fun acc p => if p.1 = k then p.2 else acc) base
def DS.read (s : DS) (k : Nat) : List Int := readFold (sect s.dur k) s.wr k

theorem readFold_snoc (base : List Int) (l : List (Int × List Int)) (p : Int × List Int) (k : Int) : readFold base (l ++ [p]) k = if p.1 = k then p.2 else readFold base l k := by simp [readFold]

theorem sect_length {dur : List Int} {n k : Nat} (h : dur.length = 64 * n) (hk : k < n) : (sect dur k).length = 64 := by simp [sect, h]; omega

theorem readFold_length {base : List Int} (hb : base.length = 64) (l : List (Int × List Int)) (h : ∀ p ∈ l, p.2.length = 64) (k : Int) : (readFold base l k).length = 64 := by
  induction l generalizing base with
  | nil => exact hb
  | cons p l ih =>
    simp only [readFold, List.foldl_cons]
    refine ih ?_ (fun q hq => h q (by simp [hq]))
    split
    · exact h p (by simp)
    · exact hb

theorem take_snoc' {α : Type} (l : List α) (k : Nat) (h : k < l.length) : l.take (k + 1) = l.take k ++ [l[k]] := by
  rw [List.take_succ_eq_append_getElem h]

/-- The cells of write number i. -/
theorem wcells_at {l : List (Int × List Int)} (h : ∀ p ∈ l, p.2.length = 64) (i : Nat) (hi : i < l.length) : ∀ j v, (wcell l[i])[j]? = some v → (wcells l)[65 * i + j]? = some v := by
  induction l generalizing i with
  | nil => simp at hi
  | cons p l ih =>
    intro j v hv
    have hp : (wcell p).length = 65 := by simp [wcell, h p (by simp)]
    cases i with
    | zero =>
      have hj : j < (wcell p).length := (List.getElem?_eq_some_iff.1 hv).1
      simp only [wcells, List.flatMap_cons, Nat.mul_zero, Nat.zero_add]
      rw [List.getElem?_append_left hj]
      exact hv
    | succ i =>
      simp only [wcells, List.flatMap_cons]
      rw [List.getElem?_append_right (by omega), show 65 * (i + 1) + j - (wcell p).length = 65 * i + j by omega]
      exact ih (fun q hq => h q (by simp [hq])) i (by simpa using hi) j v (by simpa using hv)

theorem wcells_length {l : List (Int × List Int)} (h : ∀ p ∈ l, p.2.length = 64) : (wcells l).length = l.length * 65 := by
  induction l with
  | nil => rfl
  | cons p l ih =>
    have hp : (wcell p).length = 65 := by simp [wcell, h p (by simp)]
    simp only [wcells, List.flatMap_cons, List.length_append, List.length_cons, hp]
    have := ih (fun q hq => h q (by simp [hq]))
    simp only [wcells] at this
    omega

theorem wcell_length {p : Int × List Int} (h : p.2.length = 64) : (wcell p).length = 65 := by simp [wcell, h]
theorem wcell_one (p : Int × List Int) : ∀ v ∈ wcell p, v.oneCell' = true := by
  intro u hp
  rcases List.mem_cons.1 hp with rfl | hp
  · rfl
  · obtain ⟨x, _, rfl⟩ := List.mem_map.1 hp; rfl
theorem wcell_data (p : Int × List Int) (j : Nat) (v : Value) (h : (p.2.map (Value.int .u8))[j]? = some v) : (wcell p)[1 + j]? = some v := by
  rw [Nat.add_comm]; simpa [wcell] using h

/-- How many bytes of a write a crash keeps. -/
def cut (k : Int) : Nat := (min (max k 0) 64).toNat
theorem cut_le (k : Int) : cut k ≤ 64 := by unfold cut; omega

/-- The durable bytes behind a crash. -/
def crashFold : List Int → List (Int × List Int) → List Int → List Int
  | dur, [], _ => dur
  | dur, _ :: _, [] => dur
  | dur, p :: l, k :: ks => crashFold (splice dur (64 * p.1.toNat) (p.2.take (cut k))) l ks

theorem crashFold_nil (dur : List Int) (l : List (Int × List Int)) : crashFold dur l [] = dur := by cases l <;> rfl

theorem crashFold_snoc (dur : List Int) (l : List (Int × List Int)) (p : Int × List Int) (ks : List Int) :
    crashFold dur (l ++ [p]) ks = if h : l.length < ks.length then splice (crashFold dur l ks) (64 * p.1.toNat) (p.2.take (cut ks[l.length])) else crashFold dur l ks := by
  induction l generalizing dur ks with
  | nil =>
    cases ks with
    | nil => simp [crashFold]
    | cons k ks => simp [crashFold]
  | cons q l ih =>
    cases ks with
    | nil => simp [crashFold]
    | cons k ks =>
      simp only [List.cons_append, crashFold, ih, List.length_cons, List.getElem_cons_succ]
      by_cases h : l.length < ks.length
      · rw [dif_pos h, dif_pos (by omega)]
      · rw [dif_neg h, dif_neg (by omega)]

theorem crashFold_length (dur : List Int) (l : List (Int × List Int)) (ks : List Int) (n : Nat) (hd : dur.length = 64 * n) (hl : ∀ p ∈ l, 0 ≤ p.1 ∧ p.1 < n ∧ p.2.length = 64) : (crashFold dur l ks).length = 64 * n := by
  induction l generalizing dur ks with
  | nil => simpa [crashFold] using hd
  | cons p l ih =>
    cases ks with
    | nil => simpa [crashFold] using hd
    | cons k ks =>
      have hp := hl p (by simp)
      have hc := cut_le k
      refine ih _ ks ?_ (fun q hq => hl q (by simp [hq]))
      rw [length_splice _ _ _ (by simp only [List.length_take]; omega), hd]

/-- The durable bytes behind a flush. -/
def flushFold (dur : List Int) (l : List (Int × List Int)) : List Int := l.foldl (fun d p => splice d (64 * p.1.toNat) p.2) dur

theorem flushFold_snoc (dur : List Int) (l : List (Int × List Int)) (p : Int × List Int) : flushFold dur (l ++ [p]) = splice (flushFold dur l) (64 * p.1.toNat) p.2 := by simp [flushFold]

theorem flushFold_length (dur : List Int) (l : List (Int × List Int)) (n : Nat) (hd : dur.length = 64 * n) (hl : ∀ p ∈ l, 0 ≤ p.1 ∧ p.1 < n ∧ p.2.length = 64) : (flushFold dur l).length = 64 * n := by
  induction l generalizing dur with
  | nil => exact hd
  | cons p l ih =>
    have hp := hl p (by simp)
    simp only [flushFold, List.foldl_cons]
    refine ih _ ?_ (fun q hq => hl q (by simp [hq]))
    rw [length_splice _ _ _ (by omega), hd]

theorem map_splice {α β : Type} (f : α → β) (L : List α) (o : Nat) (cs : List α) : (splice L o cs).map f = splice (L.map f) o (cs.map f) := by simp [splice]
theorem splice_append {α : Type} (L R cs : List α) (o : Nat) (h : o + cs.length ≤ L.length) : splice (L ++ R) o cs = splice L o cs ++ R := by
  simp only [splice]
  rw [List.take_append_of_le_length (by omega), List.drop_append_of_le_length (by omega)]
  simp

def DS.crash (kept : List Int) (s : DS) : DS := if s.down then s else { dur := crashFold s.dur s.wr kept, wr := [], down := true, fuse := 0, kept := [] }
/-- The fuse: what an operation finds, and the disk behind it. -/
def DS.ready (s : DS) : Int × DS := if s.down then (340, s) else if s.fuse = 1 then (340, s.crash s.kept) else (0, { s with fuse := max (s.fuse - 1) 0 })
def DS.write (s : DS) (k : Int) (data : List Int) : Int × DS := if s.ready.1 = 0 then (0, { s.ready.2 with wr := s.ready.2.wr ++ [(k, data)] }) else s.ready
def DS.flush (s : DS) : Int × DS := if s.ready.1 = 0 then (0, { s.ready.2 with dur := flushFold s.ready.2.dur s.ready.2.wr, wr := [] }) else s.ready

theorem DS.crash_ok {s : DS} {n : Nat} (ok : s.Ok n) (kept : List Int) : (s.crash kept).Ok n := by
  unfold DS.crash
  split
  · exact ok
  · exact ⟨crashFold_length _ _ _ _ ok.dur ok.wr, ok.lo, ok.hi, by simp, by simp, by simp, by simp⟩

theorem DS.ready_ok {s : DS} {n : Nat} (ok : s.Ok n) : s.ready.2.Ok n := by
  unfold DS.ready
  split
  · exact ok
  · split
    · exact DS.crash_ok ok _
    · exact ⟨ok.dur, ok.lo, ok.hi, ok.wr, by simp only; omega, by have := ok.fuse1; simp only; omega, ok.kept⟩

theorem DS.write_ok {s : DS} {n : Nat} (ok : s.Ok n) (k : Int) (h0 : 0 ≤ k) (h1 : k < n) (data : List Int) (hd : data.length = 64) : (s.write k data).2.Ok n := by
  unfold DS.write
  have h := DS.ready_ok ok
  split
  · exact ⟨h.dur, h.lo, h.hi, fun p hp => by
      rcases List.mem_append.1 hp with hp | hp
      · exact h.wr p hp
      · simp only [List.mem_singleton] at hp; subst hp; exact ⟨h0, h1, hd⟩, h.fuse0, h.fuse1, h.kept⟩
  · exact h

theorem DS.flush_ok {s : DS} {n : Nat} (ok : s.Ok n) : s.flush.2.Ok n := by
  unfold DS.flush
  have h := DS.ready_ok ok
  split
  · exact ⟨flushFold_length _ _ _ h.dur h.wr, h.lo, h.hi, by simp, h.fuse0, h.fuse1, h.kept⟩
  · exact h

end Go.Proofs.Ythnolhcknhhipaa
