/-
  What the disk's laws say, as plain laws of disks as data: reading, flushing.
  No condition.
-/
import Derived.Test.YthnolhcknhhipaaDkPrep
namespace Go.Proofs.Ythnolhcknhhipaa
set_option linter.unusedVariables false
set_option linter.unusedSimpArgs false

theorem splice_get {α : Type} (L cs : List α) (o : Nat) (h : o + cs.length ≤ L.length) (i : Nat) : (splice L o cs)[i]? = if o ≤ i ∧ i < o + cs.length then cs[i - o]? else L[i]? := by
  simp only [splice]
  by_cases h1 : i < o
  · rw [if_neg (by omega), List.getElem?_append_left (by simp; omega), List.getElem?_take_of_lt h1]
  · by_cases h2 : i < o + cs.length
    · rw [if_pos (by omega), List.getElem?_append_right (by simp; omega), List.getElem?_append_left (by simp; omega)]
      congr 1; simp; omega
    · rw [if_neg (by omega), List.getElem?_append_right (by simp; omega), List.getElem?_append_right (by simp; omega)]
      simp only [List.length_take, List.getElem?_drop]
      congr 1; omega

theorem sect_get (dur : List Int) (k j : Nat) : (sect dur k)[j]? = if j < 64 then dur[64 * k + j]? else none := by
  unfold sect
  by_cases h : j < 64
  · rw [if_pos h, List.getElem?_take_of_lt h, List.getElem?_drop]
  · rw [if_neg h, List.getElem?_eq_none]; simp; omega

theorem sect_splice (dur cs : List Int) (n q k : Nat) (hd : dur.length = 64 * n) (hq : q < n) (hc : cs.length ≤ 64) : sect (splice dur (64 * q) cs) k = if q = k then splice (sect dur k) 0 cs else sect dur k := by
  have hl : 64 * q + cs.length ≤ dur.length := by omega
  apply List.ext_getElem?
  intro j
  rw [sect_get]
  by_cases hj : j < 64
  · rw [if_pos hj, splice_get _ _ _ hl]
    by_cases hqk : q = k
    · subst hqk
      rw [if_pos rfl, splice_get _ _ _ (by rw [sect_length hd hq]; omega), sect_get, if_pos hj]
      by_cases hjc : j < cs.length
      · rw [if_pos (by omega), if_pos (by omega)]; congr 1; omega
      · rw [if_neg (by omega), if_neg (by omega)]
    · rw [if_neg hqk, if_neg (by omega), sect_get, if_pos hj]
  · rw [if_neg hj]
    symm
    rw [List.getElem?_eq_none]
    split
    · rename_i hqk; subst hqk
      rw [length_splice _ _ _ (by rw [sect_length hd hq]; omega), sect_length hd hq]; omega
    · simp [sect]; omega

theorem splice_whole {α : Type} (L cs : List α) (h : cs.length = L.length) : splice L 0 cs = cs := by
  simp [splice, h]

/-- A flush makes durable what a read finds. -/
theorem sect_flush (dur : List Int) (l : List (Int × List Int)) (n : Nat) (hd : dur.length = 64 * n) (hl : ∀ p ∈ l, 0 ≤ p.1 ∧ p.1 < n ∧ p.2.length = 64) (k : Nat) (hk : k < n) : sect (flushFold dur l) k = readFold (sect dur k) l k := by
  induction l generalizing dur with
  | nil => rfl
  | cons p l ih =>
    have hp := hl p (by simp)
    simp only [flushFold, readFold, List.foldl_cons]
    have h1 : (splice dur (64 * p.1.toNat) p.2).length = 64 * n := by rw [length_splice _ _ _ (by omega), hd]
    have := ih (splice dur (64 * p.1.toNat) p.2) h1 (fun q hq => hl q (by simp [hq]))
    simp only [flushFold, readFold] at this
    rw [this, sect_splice _ _ n _ _ hd (by omega) (by omega)]
    by_cases h : p.1 = (k : Int)
    · rw [if_pos (by omega), if_pos h, splice_whole _ _ (by rw [sect_length hd hk]; exact hp.2.2)]
    · rw [if_neg (by omega), if_neg h]

theorem DS.Up.read_flush {s : DS} {m : Nat} (h : s.Up m) (k : Nat) (hk : k < 4) : s.flush.2.read k = s.read k := by
  rw [h.flush]
  exact sect_flush s.dur s.wr 4 h.ok.dur h.ok.wr k hk

theorem DS.Up.all_flush {s : DS} {m : Nat} (h : s.Up m) : s.flush.2.all = s.all := by
  unfold DS.all
  rw [h.read_flush 0 (by omega), h.read_flush 1 (by omega), h.read_flush 2 (by omega), h.read_flush 3 (by omega)]

theorem DS.Up.read_write {s : DS} {m : Nat} (h : s.Up m) (x : Int) (data : List Int) (k : Nat) : (s.write x data).2.read k = if x = k then data else s.read k := by
  rw [h.write]
  exact readFold_snoc _ _ _ _

/-- Where a byte of the contents is. -/
theorem DS.all_get {s : DS} (ok : s.Ok 4) (i : Nat) (hi : i < 256) : s.all[i]? = (s.read (i / 64))[i % 64]? := by
  have h0 := DS.read_length ok (show 0 < 4 by omega)
  have h1 := DS.read_length ok (show 1 < 4 by omega)
  have h2 := DS.read_length ok (show 2 < 4 by omega)
  unfold DS.all
  rcases Nat.lt_or_ge i 64 with h | h
  · rw [show i / 64 = 0 by omega, show i % 64 = i by omega, List.append_assoc, List.append_assoc, List.getElem?_append_left (by omega)]
  · rcases Nat.lt_or_ge i 128 with h' | h'
    · rw [show i / 64 = 1 by omega, show i % 64 = i - 64 by omega, List.append_assoc, List.append_assoc, List.getElem?_append_right (by omega), List.getElem?_append_left (by omega), h0]
    · rcases Nat.lt_or_ge i 192 with h'' | h''
      · rw [show i / 64 = 2 by omega, show i % 64 = i - 128 by omega, List.append_assoc, List.append_assoc, List.getElem?_append_right (by omega), List.getElem?_append_right (by omega), List.getElem?_append_left (by omega), h0, h1, show i - 64 - 64 = i - 128 by omega]
      · rw [show i / 64 = 3 by omega, show i % 64 = i - 192 by omega, List.getElem?_append_right (by simp; omega)]
        simp only [List.length_append, h0, h1, h2]

theorem DS.all_get' {s : DS} (ok : s.Ok 4) (i : Nat) (hi : i < s.all.length) : s.all[i] = ((s.read (i / 64))[i % 64]?).getD 0 := by
  have h := DS.all_length ok
  rw [← DS.all_get ok i (by omega), List.getElem?_eq_getElem hi]; rfl

end Go.Proofs.Ythnolhcknhhipaa
