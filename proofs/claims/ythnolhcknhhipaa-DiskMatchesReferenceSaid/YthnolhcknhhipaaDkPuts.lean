/-
  Several writes behind each other, and a crash behind them: plain laws.
  No condition.
-/
import Derived.Test.YthnolhcknhhipaaDkPlain
namespace Go.Proofs.Ythnolhcknhhipaa
set_option linter.unusedVariables false
set_option linter.unusedSimpArgs false

/-- The disk behind several writes. -/
def DS.puts (s : DS) (l : List (Int × List Int)) : DS := { s with wr := s.wr ++ l }

theorem DS.Up.puts {s : DS} {k : Nat} (h : s.Up k) (l : List (Int × List Int)) (hl : ∀ p ∈ l, 0 ≤ p.1 ∧ p.1 < 4 ∧ p.2.length = 64) : (s.puts l).Up (k + l.length) :=
  ⟨⟨h.ok.dur, h.ok.lo, h.ok.hi, fun p hp => by
      rcases List.mem_append.1 hp with hp | hp
      · exact h.ok.wr p hp
      · exact hl p hp, h.ok.fuse0, h.ok.fuse1, h.ok.kept⟩, h.down, h.fuse, by have := h.wr; simp only [DS.puts, List.length_append]; omega, h.kept⟩

theorem DS.Up.puts_write {s : DS} {k : Nat} (h : s.Up k) (l : List (Int × List Int)) (x : Int) (data : List Int) (h' : (s.puts l).Up (k + l.length)) : (s.puts l).write x data = (0, s.puts (l ++ [(x, data)])) := by
  rw [h'.write]; simp [DS.puts]

/-- The writes of the laws: a sector of four, all bytes alike. -/
def wrTo (ops : List OpD) (j : Nat) : List (Int × List Int) := (ops.take j).map fun x => (at4 x.pos, fill x.byte)
theorem wrTo_succ (ops : List OpD) (j : Nat) (h : j < ops.length) : wrTo ops (j + 1) = wrTo ops j ++ [(at4 ops[j].pos, fill ops[j].byte)] := by
  unfold wrTo; rw [take_snoc' _ _ h, List.map_append]; rfl
theorem wrTo_ok (ops : List OpD) (j : Nat) : ∀ p ∈ wrTo ops j, 0 ≤ p.1 ∧ p.1 < 4 ∧ p.2.length = 64 := by
  intro p hp
  obtain ⟨x, _, rfl⟩ := List.mem_map.1 hp
  exact ⟨(at4_bd _).1, (at4_bd _).2, fill_length _⟩
theorem wrTo_length (ops : List OpD) (j : Nat) : (wrTo ops j).length ≤ j := by simp [wrTo]; omega

/-- The bytes that the law allows in a sector. -/
def lets (ops : List OpD) (j : Nat) (q : Nat) : List Int := ((ops.take j).filter fun x => at4 x.pos == (q : Int)).map OpD.byte
theorem lets_succ (ops : List OpD) (j : Nat) (h : j < ops.length) (q : Nat) : lets ops (j + 1) q = if at4 ops[j].pos = q then lets ops j q ++ [ops[j].byte] else lets ops j q := by
  unfold lets
  rw [take_snoc' _ _ h, List.filter_append, List.map_append]
  by_cases hq : at4 ops[j].pos = q
  · simp [hq]
  · simp [hq]
theorem lets_length (ops : List OpD) (j q : Nat) : (lets ops j q).length ≤ j := by
  unfold lets
  have := List.length_filter_le (fun x : OpD => at4 x.pos == (q : Int)) (ops.take j)
  simp at this ⊢; omega

theorem crash_get (l : List (Int × List Int)) : ∀ (dur ks : List Int) (n : Nat), dur.length = 64 * n → (∀ p ∈ l, 0 ≤ p.1 ∧ p.1 < n ∧ p.2.length = 64) → ∀ q, q < n → ∀ j : Nat,
    (sect (crashFold dur l ks) q)[j]? = (sect dur q)[j]? ∨ ∃ p ∈ l, p.1 = (q : Int) ∧ (sect (crashFold dur l ks) q)[j]? = p.2[j]? := by
  induction l with
  | nil => intro dur ks n _ _ q _ j; exact .inl (by simp [crashFold])
  | cons p l ih =>
    intro dur ks n hd hl q hq j
    cases ks with
    | nil => exact .inl (by simp [crashFold])
    | cons k ks =>
      have hp := hl p (by simp)
      have hc := cut_le k
      have ht : (p.2.take (cut k)).length ≤ 64 := by simp only [List.length_take]; omega
      have hd' : (splice dur (64 * p.1.toNat) (p.2.take (cut k))).length = 64 * n := by rw [length_splice _ _ _ (by omega), hd]
      rcases ih (splice dur (64 * p.1.toNat) (p.2.take (cut k))) ks n hd' (fun r hr => hl r (by simp [hr])) q hq j with h | ⟨r, hr, h1, h2⟩
      · simp only [crashFold]
        rw [h, sect_splice _ _ n _ _ hd (by omega) ht]
        by_cases hpq : p.1.toNat = q
        · rw [if_pos hpq, splice_get _ _ _ (by rw [sect_length hd hq]; omega)]
          split
          · rename_i hj
            refine .inr ⟨p, by simp, by omega, ?_⟩
            rw [Nat.sub_zero, List.getElem?_take_of_lt (by simp only [List.length_take] at hj; omega)]
          · exact .inl rfl
        · rw [if_neg hpq]; exact .inl rfl
      · exact .inr ⟨r, by simp [hr], h1, by simpa only [crashFold] using h2⟩

/-- The disk behind a crash, with power again. -/
def DS.back (s : DS) (ks : List Int) : DS := { s.crash ks with down := false }

theorem DS.Up.crash {s : DS} {k : Nat} (h : s.Up k) (ks : List Int) : s.crash ks = { dur := crashFold s.dur s.wr ks, wr := [], down := true, fuse := 0, kept := [] } := by
  unfold DS.crash; rw [h.down]; rfl
theorem DS.Up.back {s : DS} {k : Nat} (h : s.Up k) (ks : List Int) : (s.back ks).Up 0 := by
  have := DS.power_ok (DS.crash_ok h.ok ks)
  unfold DS.back at *
  rw [h.crash] at this ⊢
  exact ⟨this, rfl, rfl, Nat.le_refl _, rfl⟩
theorem DS.Up.back_read {s : DS} {k : Nat} (h : s.Up k) (ks : List Int) (q : Nat) : (s.back ks).read q = sect (crashFold s.dur s.wr ks) q := by
  unfold DS.back DS.read; rw [h.crash]; rfl

theorem DS.wr_nil {s : DS} (h : s.Up 0) : s.wr = [] := List.length_eq_zero_iff.1 (Nat.le_zero.1 h.wr)
theorem DS.read_flat {s : DS} (h : s.Up 0) (q : Nat) : s.read q = sect s.dur q := by
  unfold DS.read; rw [DS.wr_nil h]; rfl

/-- What the law asks of a byte. -/
theorem durable_byte {s : DS} (h : s.Up 0) (ops : List OpD) (j : Nat) (ks : List Int) (i : Nat) (hi : i < 256) :
    ((s.puts (wrTo ops j)).back ks).all[i]? = s.all[i]? ∨ ∃ y ∈ lets ops j (i / 64), ((s.puts (wrTo ops j)).back ks).all[i]? = some y := by
  have hp := h.puts (wrTo ops j) (wrTo_ok ops j)
  rw [DS.all_get (hp.back ks).ok i hi, DS.all_get h.ok i hi, hp.back_read, DS.read_flat h]
  have hw : (s.puts (wrTo ops j)).wr = wrTo ops j := by simp [DS.puts, DS.wr_nil h]
  rw [hw]
  rcases crash_get (wrTo ops j) s.dur ks 4 h.ok.dur (by simpa using wrTo_ok ops j) (i / 64) (by omega) (i % 64) with h1 | ⟨p, hp, h1, h2⟩
  · exact .inl h1
  · right
    obtain ⟨x, hx, rfl⟩ := List.mem_map.1 hp
    refine ⟨x.byte, ?_, ?_⟩
    · unfold lets
      exact List.mem_map.2 ⟨x, List.mem_filter.2 ⟨hx, by simpa using h1⟩, rfl⟩
    · refine h2.trans ?_; simp only [fill]; rw [List.getElem?_replicate, if_pos (by omega)]

theorem durable_get {s : DS} (h : s.Up 0) (ops : List OpD) (j : Nat) (ks : List Int) (i : Nat) (hi : i < 256) (h1 : i < ((s.puts (wrTo ops j)).back ks).all.length) (h2 : i < s.all.length) :
    ((s.puts (wrTo ops j)).back ks).all[i] = s.all[i] ∨ ((s.puts (wrTo ops j)).back ks).all[i] ∈ lets ops j (i / 64) := by
  rcases durable_byte h ops j ks i hi with h | ⟨y, hy, h⟩
  · left
    rw [List.getElem?_eq_getElem h1, List.getElem?_eq_getElem h2] at h
    exact Option.some.inj h
  · right
    rw [List.getElem?_eq_getElem h1] at h
    rw [Option.some.inj h]; exact hy

end Go.Proofs.Ythnolhcknhhipaa
