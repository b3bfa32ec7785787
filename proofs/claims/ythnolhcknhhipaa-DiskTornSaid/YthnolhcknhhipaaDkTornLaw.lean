/-
  DiskTorn: the plain laws.
  No condition.
-/
import Derived.Test.YthnolhcknhhipaaDkWrAll
namespace Go.Proofs.Ythnolhcknhhipaa
set_option linter.unusedVariables false
set_option linter.unusedSimpArgs false

theorem DS.Up.one_puts {s : DS} (h : s.Up 0) (x : Int) (data : List Int) : (s.write x data).2 = s.puts [(x, data)] := by rw [h.write]; rfl

theorem torn_get {s : DS} (h : s.Up 0) (k : Int) (i : Nat) (hi : i < 256) (h1 : i < ((s.write 2 (fill 200)).2.back [k]).all.length) (h2 : i < s.all.length) :
    ((s.write 2 (fill 200)).2.back [k]).all[i] = if (i : Int) / 64 = 2 ∧ (i : Int) % 64 < k then 200 else s.all[i] := by
  have hw := h.written 2 (by omega) (by omega) (fill 200) (fill_length _)
  apply Option.some.inj
  rw [← List.getElem?_eq_getElem h1, DS.all_get (hw.back [k]).ok i hi, hw.back_read]
  have h3 := DS.all_get h.ok i hi
  rw [List.getElem?_eq_getElem h2, DS.read_flat h] at h3
  rw [h.one_puts]
  have e : (s.puts [((2 : Int), fill 200)]).wr = [(2, fill 200)] := by simp [DS.puts, DS.wr_nil h]
  rw [e]
  show (sect (splice s.dur (64 * 2) ((fill 200).take (cut k))) (i / 64))[i % 64]? = _
  have hc := cut_le k
  have hl : ((fill 200).take (cut k)).length = cut k := by simp [fill]; omega
  have hs := sect_length h.ok.dur (show 2 < 4 by omega)
  rw [sect_splice _ _ 4 _ _ h.ok.dur (by omega) (by omega)]
  by_cases hq : 2 = i / 64
  · rw [if_pos hq, splice_get _ _ _ (by rw [← hq]; omega), hl]
    by_cases hj : i % 64 < cut k
    · have : (i : Int) % 64 < k := by unfold cut at hj; omega
      rw [if_pos ⟨by omega, by omega⟩, if_pos ⟨by omega, this⟩, Nat.sub_zero, List.getElem?_take_of_lt hj]
      simp only [fill]
      rw [List.getElem?_replicate, if_pos (by omega)]
    · have : ¬ (i : Int) % 64 < k := by unfold cut at hj; omega
      rw [if_neg (by omega), if_neg (fun h => this h.2), ← h3]
  · rw [if_neg hq, if_neg (by omega), ← h3]

/-- What the law writes of an operation. -/
def OpD.bit (x : OpD) : List Int := x.data.take 64
def tornTo (ops : List OpD) (j : Nat) : List (Int × List Int) := (ops.take j).filterMap fun x => if x.bit.length = 64 then some (at4 x.pos, x.bit) else none
theorem tornTo_succ (ops : List OpD) (j : Nat) (h : j < ops.length) : tornTo ops (j + 1) = if ops[j].bit.length = 64 then tornTo ops j ++ [(at4 ops[j].pos, ops[j].bit)] else tornTo ops j := by
  unfold tornTo
  rw [take_snoc' _ _ h, List.filterMap_append]
  by_cases hb : ops[j].bit.length = 64
  · simp [hb]
  · simp [hb]
theorem tornTo_ok (ops : List OpD) (j : Nat) : ∀ p ∈ tornTo ops j, 0 ≤ p.1 ∧ p.1 < 4 ∧ p.2.length = 64 := by
  intro p hp
  obtain ⟨x, _, hx⟩ := List.mem_filterMap.1 hp
  split at hx
  · rename_i hb
    cases hx
    exact ⟨(at4_bd _).1, (at4_bd _).2, hb⟩
  · cases hx
theorem tornTo_length (ops : List OpD) (j : Nat) : (tornTo ops j).length ≤ j := by
  unfold tornTo
  have := List.length_filterMap_le (fun x : OpD => if x.bit.length = 64 then some (at4 x.pos, x.bit) else none) (ops.take j)
  simp at this ⊢; omega

theorem torn_step {s : DS} (h : s.Up 0) (ops : List OpD) (j : Nat) (hj : j < ops.length) (x : OpD) (hx : ops[j] = x) : ((s.puts (tornTo ops j)).writeAny 4 (at4 x.pos) x.bit).2 = s.puts (tornTo ops (j + 1)) := by
  rw [tornTo_succ _ _ hj, hx]
  have hp := h.puts (tornTo ops j) (tornTo_ok ops j)
  have := at4_bd x.pos
  unfold DS.writeAny
  by_cases hb : x.bit.length = 64
  · rw [if_pos ⟨this.1, by omega, hb⟩, if_pos hb, h.puts_write _ _ _ hp]
  · rw [if_neg (fun h => hb h.2.2), if_neg hb]

/-- All bytes of all writes kept: a flush. -/
theorem crash_all (l : List (Int × List Int)) : ∀ (dur ks : List Int), l.length ≤ ks.length → (∀ p ∈ l, p.2.length = 64) → (∀ y ∈ ks, 64 ≤ y) → crashFold dur l ks = flushFold dur l := by
  induction l with
  | nil => intro dur ks _ _ _; simp [crashFold, flushFold]
  | cons p l ih =>
    intro dur ks hk hp hy
    cases ks with
    | nil => simp at hk
    | cons y ks =>
      have hc : cut y = 64 := by unfold cut; have := hy y (by simp); omega
      simp only [crashFold, hc]
      rw [ih _ ks (by simpa using hk) (fun q hq => hp q (by simp [hq])) (fun z hz => hy z (by simp [hz]))]
      rw [List.take_of_length_le (by rw [hp p (by simp)]; exact Nat.le_refl 64)]
      simp [flushFold]
/-- Of the only write that is looked at none is kept. -/
theorem crash_none (l : List (Int × List Int)) (dur : List Int) (y : Int) (hy : y ≤ 0) : crashFold dur l [y] = dur := by
  cases l with
  | nil => simp [crashFold]
  | cons p l =>
    have hc : cut y = 0 := by unfold cut; omega
    simp only [crashFold, hc, List.take_zero, crashFold_nil]
    simp [splice]

theorem all_of_dur {s t : DS} (hs : s.Up 0) (ht : t.Up 0) (h : s.dur = t.dur) : s.all = t.all := by
  unfold DS.all
  rw [DS.read_flat hs, DS.read_flat hs, DS.read_flat hs, DS.read_flat hs, DS.read_flat ht, DS.read_flat ht, DS.read_flat ht, DS.read_flat ht, h]

theorem torn_all {s : DS} (h : s.Up 0) (l : List (Int × List Int)) (hl : ∀ p ∈ l, 0 ≤ p.1 ∧ p.1 < 4 ∧ p.2.length = 64) (ks : List Int) (hk : l.length ≤ ks.length) (hy : ∀ y ∈ ks, 64 ≤ y) :
    ((s.puts l).back ks).all = (s.puts l).flush.2.all := by
  have hp := h.puts l hl
  refine all_of_dur (hp.back ks) hp.flushed ?_
  have e : (s.puts l).wr = l := by simp [DS.puts, DS.wr_nil h]
  unfold DS.back
  rw [hp.crash, hp.flush, e]
  exact crash_all l _ ks hk (fun p hp => (hl p hp).2.2) hy

theorem torn_none {s : DS} (h : s.Up 0) (l : List (Int × List Int)) (hl : ∀ p ∈ l, 0 ≤ p.1 ∧ p.1 < 4 ∧ p.2.length = 64) (y : Int) (hy : y ≤ 0) :
    ((s.puts l).back [y]).all = s.all := by
  have hp := h.puts l hl
  refine all_of_dur (hp.back [y]) h ?_
  unfold DS.back
  rw [hp.crash]
  exact crash_none _ _ y hy

end Go.Proofs.Ythnolhcknhhipaa
