/-
  The laws' own helper do: an operation of any kind.
  Condition: fewer than 2^30 writes are pending; the numbers to be kept fit into 2^47 bytes.
-/
import Derived.Test.YthnolhcknhhipaaDkWrAll
namespace Go.Proofs.Ythnolhcknhhipaa
set_option linter.unusedVariables false
set_option linter.unusedSimpArgs false
open Go.RowKit

/-- What an operation does to the disk that goes on. -/
def DS.op (n : Nat) (s : DS) (x : OpD) : Int × DS :=
  if x.kind % 10 = 4 then s.flush
  else if x.kind % 10 = 5 then (0, s.crash x.kept)
  else if x.kind % 10 = 6 then (0, { s with down := false })
  else if x.kind % 10 = 7 then (0, { s with fuse := max x.pos 0, kept := x.kept })
  else if x.kind % 10 = 8 then (0, s)
  else if x.kind % 10 = 9 then (0, s)
  else s.writeAny n x.pos x.data

theorem DS.op_ok {s : DS} {n : Nat} (ok : s.Ok n) (x : OpD) (xok : x.Ok) : (s.op n x).2.Ok n := by
  unfold DS.op
  repeat' split
  · exact DS.flush_ok ok
  · exact DS.crash_ok ok _
  · exact DS.power_ok ok
  · exact DS.fuse_ok ok _ xok.p1 _ xok.keptIn
  · exact ok
  · exact ok
  · exact DS.writeAny_ok ok _ _

theorem Disks.swap {w : World} {B : Nat} {M : Nat → Prop} {L : List (Nat × DS)} {p : Nat × DS} (h : Disks w B M (L ++ [p])) (i : Nat) (hi : i < L.length) : Disks w B M (L.set i p) := by
  obtain ⟨h0, h1, Fs, h2, h3, h4⟩ := h
  refine ⟨h0, h1, fun j => if j = i then Fs L.length else Fs j, fun j hj => ?_, fun a b k ha hb hfa hfb => ?_, fun j k hj hf => ?_⟩
  · have hj' : j < L.length := by simpa using hj
    by_cases hji : j = i
    · subst hji
      simp only [if_true, List.getElem_set_self]
      have := h2 L.length (by simp)
      simpa using this
    · simp only [if_neg hji]
      rw [List.getElem_set_ne (Ne.symm hji)]
      have := h2 j (by simp; omega)
      rw [List.getElem_append_left hj'] at this
      exact this
  · have ha' : a < L.length := by simpa using ha
    have hb' : b < L.length := by simpa using hb
    by_cases hai : a = i <;> by_cases hbi : b = i
    · rw [hai, hbi]
    · simp only [if_pos hai] at hfa; simp only [if_neg hbi] at hfb
      have := h3 L.length b k (by simp) (by simp; omega) hfa hfb; omega
    · simp only [if_neg hai] at hfa; simp only [if_pos hbi] at hfb
      have := h3 a L.length k (by simp; omega) (by simp) hfa hfb; omega
    · simp only [if_neg hai] at hfa; simp only [if_neg hbi] at hfb
      exact h3 a b k (by simp; omega) (by simp; omega) hfa hfb
  · have hj' : j < L.length := by simpa using hj
    by_cases hji : j = i
    · simp only [if_pos hji] at hf; exact h4 L.length k (by simp) hf
    · simp only [if_neg hji] at hf; exact h4 j k (by simp; omega) hf

theorem Disks.init {w : World} {B : Nat} {M : Nat → Prop} {L : List (Nat × DS)} {p : Nat × DS} (h : Disks w B M (L ++ [p])) : Disks w B M L := by
  obtain ⟨h0, h1, Fs, h2, h3, h4⟩ := h
  refine ⟨h0, h1, Fs, fun j hj => ?_, fun a b k ha hb => h3 a b k (by simp; omega) (by simp; omega), fun j k hj => h4 j k (by simp; omega)⟩
  have := h2 j (by simp; omega)
  rw [List.getElem_append_left hj] at this
  exact this

set_option maxRecDepth 100000 in
set_option maxHeartbeats 4000000 in
theorem law_do {w : World} {B : Nat} {M : Nat → Prop} {L : List (Nat × DS)} (h : Disks w B M L) (i : Nat) {g : Nat} {s : DS} (hi : L[i]? = some (g, s)) {n : Nat} (ok : s.Ok n) (x : OpD) (xok : x.Ok) (K : Value) (hK : Ints w M K x.kept)
    (hwr : s.wr.length < 1073741824) (hsk : s.kept.length * 8 ≤ 140737488355328) (hxk : x.kept.length * 8 ≤ 140737488355328) :
    Calls Try.prog 23 #[.pointer (some ⟨g, 0, none⟩), x.val K] w fun e w' => ∃ g', e = .returned (.tuple #[.pointer (some ⟨g', 0, none⟩), .int .i64 (s.op n x).1]) ∧ ∃ M', Disks w' B M' (L.set i (g', (s.op n x).2)) ∧ Step M w M' w' := by
  have hli : i < L.length := (List.getElem?_eq_some_iff.1 hi).1
  have hw0 : Below w.heap.size w (w.alloc (.cells #[.int .u8 x.kind, .int .i64 x.pos, .int .u8 x.byte, .int .i64 x.long, K] 40)) := (Below.refl _ _).alloc (Nat.le_refl _) _
  have hB := heap_alloc_new w (.cells #[.int .u8 x.kind, .int .i64 x.pos, .int .u8 x.byte, .int .i64 x.long, K] 40)
  have hnb : ¬ M w.heap.size := fun hm => by have := (h.2.1 _ hm).2; omega
  have hlt : w.heap.size < (w.alloc (.cells #[.int .u8 x.kind, .int .i64 x.pos, .int .u8 x.byte, .int .i64 x.long, K] 40)).heap.size := by simp
  have hk0 := xok.k0
  have hk1 := xok.k1
  have D : Hid (Disks (w.alloc (.cells #[.int .u8 x.kind, .int .i64 x.pos, .int .u8 x.byte, .int .i64 x.long, K] 40)) B M L) := (h.pure hw0).1
  have S : Hid (Step M w M (w.alloc (.cells #[.int .u8 x.kind, .int .i64 x.pos, .int .u8 x.byte, .int .i64 x.long, K] 40))) := (h.pure hw0).2
  have HK : Hid (Ints (w.alloc (.cells #[.int .u8 x.kind, .int .i64 x.pos, .int .u8 x.byte, .int .i64 x.long, K] 40)) M K x.kept) := hK.step S.out
  have OK := Lib.hid ok; have HI := Lib.hid hi; have XOK := Lib.hid xok; have HWR := Lib.hid hwr; have HSK := Lib.hid hsk; have HXK := Lib.hid hxk
  have HN := Lib.hid ok.lo; have HLI := Lib.hid hli
  clear h hw0 hK ok xok hwr hsk hxk hi hli
  obtain ⟨w0, hw0q⟩ : ∃ w0, w.alloc (.cells #[.int .u8 x.kind, .int .i64 x.pos, .int .u8 x.byte, .int .i64 x.long, K] 40) = w0 := ⟨_, rfl⟩
  obtain ⟨bx, hbx⟩ : ∃ bx, w.heap.size = bx := ⟨_, rfl⟩
  rw [hw0q] at hB hlt D S HK
  rw [hbx] at hB hlt hnb
  have X : Hid (∀ (M' : Nat → Prop) (w' : World), Step M w0 M' w' → OpCells w' bx 0 x K) := by
    intro M' w' hs
    have hc : ∀ i (z : Value), (#[.int .u8 x.kind, .int .i64 x.pos, .int .u8 x.byte, .int .i64 x.long, K] : Array Value)[i]? = some z → w'.cell? ⟨bx, i, none⟩ = some z := fun i z hz => hs.cell hnb (by rw [cell_of_row w0 bx i _ _ _ hB]; exact hz)
    exact ⟨hc 0 _ rfl, hc 1 _ rfl, hc 2 _ rfl, hc 3 _ rfl, hc 4 _ rfl⟩
  have HLT := Lib.hid hlt; have HNB := Lib.hid hnb
  clear hB hlt hnb
  obtain ⟨x0, x1, x2, x3, x4⟩ := X.out _ _ (Step.refl M w0)
  simp only [Nat.zero_add] at x1 x2 x3 x4
  unfold DS.op
  obtain ⟨m, hm⟩ : ∃ m, x.kind % 10 = m := ⟨_, rfl⟩
  have hm0 : 0 ≤ m := by omega
  have hm9 : m ≤ 9 := by omega
  rw [hm]
  by_cases n4 : m = 4
  · rw [n4] at hm
    have e4 : (x.kind % 10 == 4) = true := by rw [hm]; rfl
    rw [if_pos n4]
    clear hm hm0 hm9
    go_enter Try.func23, Try.ntmps23
    go_wp2_with (fail)
    refine (law_flush D.out i HI.out OK.out).mono ?_
    rintro e w1 ⟨rfl, M1, hd, hs⟩
    have R1 : Hid (∃ M', Disks w1 B M' (L.set i (g, s.flush.2)) ∧ Step M w M' w1) := ⟨M1, hd, S.out.trans hs⟩
    clear hd hs
    go_wp2_with (fail)
    go_ret2
    exact ⟨g, rfl, R1.out⟩
  by_cases n5 : m = 5
  · rw [n5] at hm
    have e4 : (x.kind % 10 == 4) = false := by rw [hm]; rfl
    have e5 : (x.kind % 10 == 5) = true := by rw [hm]; rfl
    rw [if_neg n4]
    rw [if_pos n5]
    clear hm hm0 hm9
    go_enter Try.func23, Try.ntmps23
    go_wp2_with (fail)
    refine (law_crash D.out i HI.out OK.out K x.kept HK.out).mono ?_
    rintro e w1 ⟨rfl, M1, hd, hs⟩
    have R1 : Hid (∃ M', Disks w1 B M' (L.set i (g, s.crash x.kept)) ∧ Step M w M' w1) := ⟨M1, hd, S.out.trans hs⟩
    clear hd hs
    go_wp2_with (fail)
    go_ret2
    exact ⟨g, rfl, R1.out⟩
  by_cases n6 : m = 6
  · rw [n6] at hm
    have e4 : (x.kind % 10 == 4) = false := by rw [hm]; rfl
    have e5 : (x.kind % 10 == 5) = false := by rw [hm]; rfl
    have e6 : (x.kind % 10 == 6) = true := by rw [hm]; rfl
    rw [if_neg n4]
    rw [if_neg n5]
    rw [if_pos n6]
    clear hm hm0 hm9
    go_enter Try.func23, Try.ntmps23
    go_wp2_with (fail)
    refine (law_power D.out i HI.out).mono ?_
    rintro e w1 ⟨rfl, M1, hd, hs⟩
    have R1 : Hid (∃ M', Disks w1 B M' (L.set i (g, { s with down := false })) ∧ Step M w M' w1) := ⟨M1, hd, S.out.trans hs⟩
    clear hd hs
    go_wp2_with (fail)
    go_ret2
    exact ⟨g, rfl, R1.out⟩
  by_cases n7 : m = 7
  · rw [n7] at hm
    have e4 : (x.kind % 10 == 4) = false := by rw [hm]; rfl
    have e5 : (x.kind % 10 == 5) = false := by rw [hm]; rfl
    have e6 : (x.kind % 10 == 6) = false := by rw [hm]; rfl
    have e7 : (x.kind % 10 == 7) = true := by rw [hm]; rfl
    rw [if_neg n4]
    rw [if_neg n5]
    rw [if_neg n6]
    rw [if_pos n7]
    clear hm hm0 hm9
    go_enter Try.func23, Try.ntmps23
    go_wp2_with (fail)
    refine (law_fuse D.out i HI.out x.pos K x.kept HK.out HXK.out).mono ?_
    rintro e w1 ⟨rfl, M1, hd, hs⟩
    have R1 : Hid (∃ M', Disks w1 B M' (L.set i (g, { s with fuse := max x.pos 0, kept := x.kept })) ∧ Step M w M' w1) := ⟨M1, hd, S.out.trans hs⟩
    clear hd hs
    go_wp2_with (fail)
    go_ret2
    exact ⟨g, rfl, R1.out⟩
  by_cases n8 : m = 8
  · rw [n8] at hm
    have e4 : (x.kind % 10 == 4) = false := by rw [hm]; rfl
    have e5 : (x.kind % 10 == 5) = false := by rw [hm]; rfl
    have e6 : (x.kind % 10 == 6) = false := by rw [hm]; rfl
    have e7 : (x.kind % 10 == 7) = false := by rw [hm]; rfl
    have e8 : (x.kind % 10 == 8) = true := by rw [hm]; rfl
    rw [if_neg n4]
    rw [if_neg n5]
    rw [if_neg n6]
    rw [if_neg n7]
    rw [if_pos n8]
    clear hm hm0 hm9
    go_enter Try.func23, Try.ntmps23
    go_wp2_with (fail)
    refine (law_copy D.out i HI.out OK.out HWR.out HSK.out).mono ?_
    rintro e w1 ⟨g1, rfl, M1, hd, hs⟩
    have D1 := Lib.hid hd; have S1 := Lib.hid (S.out.trans hs)
    clear hd hs
    go_wp2_with (fail)
    refine (law_filled D1.out 120).mono ?_
    rintro e w2 ⟨b2, rfl, hd, hs, hb, hn⟩
    have D2 := Lib.hid hd; have S2 := Lib.hid (S1.out.trans hs); have B2 := Lib.hid (hb.bytes64 hn (fill_length _))
    clear hd hs hb hn
    have HI1 : Hid ((L ++ [(g1, s)])[i]? = some (g, s)) := by show _ = _; rw [List.getElem?_append_left HLI.out]; exact HI.out
    go_wp2_with (fail)
    refine (law_write D2.out i HI1.out OK.out 0 (by omega) (by have := HN.out; omega) _ (fill 120) (fill_length _) B2.out HWR.out).mono ?_
    rintro e w3 ⟨rfl, M3, hd, hs⟩
    have D3 := Lib.hid hd; have S3 := Lib.hid (S2.out.trans hs)
    clear hd hs
    have HI2 : Hid (((L ++ [(g1, s)]).set i (g, (s.write 0 (fill 120)).2))[i]? = some (g, (s.write 0 (fill 120)).2)) := by show _ = _; rw [List.getElem?_set_self (by have := HLI.out; simp; omega)]
    have OK2 : Hid ((s.write 0 (fill 120)).2.Ok n) := DS.write_ok OK.out 0 (by omega) (by have := HN.out; omega) _ (fill_length _)
    have I3 : Hid (Ints w3 M3 (.slice none 0 0) []) := ⟨none, 0, rfl, Nat.le_refl _, by simp [maxLen], fun _ => ⟨rfl, rfl⟩, .inl rfl⟩
    go_wp2_with (fail)
    refine (law_crash D3.out i HI2.out OK2.out _ [] I3.out).mono ?_
    rintro e w4 ⟨rfl, M4, hd, hs⟩
    have R1 : Hid (∃ M', Disks w4 B M' (L.set i (g1, s)) ∧ Step M w M' w4) := by
      refine ⟨M4, ?_, S3.out.trans hs⟩
      rw [List.set_set, List.set_append_left _ _ HLI.out] at hd
      have h2 := hd.swap i (by simpa using HLI.out)
      rwa [List.set_set] at h2
    clear hd hs
    go_wp2_with (fail)
    go_ret2
    exact ⟨g1, rfl, R1.out⟩
  by_cases n9 : m = 9
  · rw [n9] at hm
    have e4 : (x.kind % 10 == 4) = false := by rw [hm]; rfl
    have e5 : (x.kind % 10 == 5) = false := by rw [hm]; rfl
    have e6 : (x.kind % 10 == 6) = false := by rw [hm]; rfl
    have e7 : (x.kind % 10 == 7) = false := by rw [hm]; rfl
    have e8 : (x.kind % 10 == 8) = false := by rw [hm]; rfl
    have e9 : (x.kind % 10 == 9) = true := by rw [hm]; rfl
    rw [if_neg n4]
    rw [if_neg n5]
    rw [if_neg n6]
    rw [if_neg n7]
    rw [if_neg n8]
    rw [if_pos n9]
    clear hm hm0 hm9
    go_enter Try.func23, Try.ntmps23
    go_wp2_with (fail)
    refine (law_copy D.out i HI.out OK.out HWR.out HSK.out).mono ?_
    rintro e w1 ⟨g1, rfl, M1, hd, hs⟩
    have D1 := Lib.hid hd; have S1 := Lib.hid (S.out.trans hs)
    clear hd hs
    have J1 : Hid ((L ++ [(g1, s)])[L.length]? = some (g1, s)) := by show _ = _; simp
    go_wp2_with (fail)
    refine (law_power D1.out L.length J1.out).mono ?_
    rintro e w2 ⟨rfl, M2, hd, hs⟩
    have D2 : Hid (Disks w2 B M2 (L ++ [(g1, { s with down := false })])) := by have := hd; rw [List.set_append_right _ _ (Nat.le_refl _), Nat.sub_self] at this; exact this
    have S2 := Lib.hid (S1.out.trans hs)
    clear hd hs
    have OKP : Hid (DS.Ok n { s with down := false }) := DS.power_ok OK.out
    have HWP : Hid (({ s with down := false } : DS).wr.length < 1073741824) := HWR.out
    generalize ({ s with down := false } : DS) = t at D2 OKP HWP
    go_wp2_with (fail)
    refine (law_filled D2.out 121).mono ?_
    rintro e w3 ⟨b3, rfl, hd, hs, hb, hn⟩
    have D3 := Lib.hid hd; have S3 := Lib.hid (S2.out.trans hs); have B3 := Lib.hid (hb.bytes64 hn (fill_length _))
    clear hd hs hb hn
    have J3 : Hid ((L ++ [(g1, t)])[L.length]? = some (g1, t)) := by show _ = _; simp
    go_wp2_with (fail)
    refine (law_write D3.out L.length J3.out OKP.out 0 (by omega) (by have := HN.out; omega) _ (fill 121) (fill_length _) B3.out HWP.out).mono ?_
    rintro e w4 ⟨rfl, M4, hd, hs⟩
    have D4 : Hid (Disks w4 B M4 (L ++ [(g1, (t.write 0 (fill 121)).2)])) := by have := hd; rw [List.set_append_right _ _ (Nat.le_refl _), Nat.sub_self] at this; exact this
    have S4 := Lib.hid (S3.out.trans hs)
    clear hd hs
    have OKW : Hid ((t.write 0 (fill 121)).2.Ok n) := DS.write_ok OKP.out 0 (by omega) (by have := HN.out; omega) _ (fill_length _)
    generalize (t.write 0 (fill 121)).2 = t2 at D4 OKW
    have J4 : Hid ((L ++ [(g1, t2)])[L.length]? = some (g1, t2)) := by show _ = _; simp
    go_wp2_with (fail)
    refine (law_flush D4.out L.length J4.out OKW.out).mono ?_
    rintro e w5 ⟨rfl, M5, hd, hs⟩
    have R1 : Hid (∃ M', Disks w5 B M' (L.set i (g, s)) ∧ Step M w M' w5) := by
      refine ⟨M5, ?_, S4.out.trans hs⟩
      rw [List.set_append_right _ _ (Nat.le_refl _), Nat.sub_self] at hd
      have h2 : Disks w5 B M5 L := Disks.init hd
      rw [set_self _ _ _ HI.out]; exact h2
    clear hd hs
    go_wp2_with (fail)
    go_ret2
    exact ⟨g, rfl, R1.out⟩
  rw [if_neg n4]
  rw [if_neg n5]
  rw [if_neg n6]
  rw [if_neg n7]
  rw [if_neg n8]
  rw [if_neg n9]
  have e4 : (x.kind % 10 == 4) = false := by rw [hm]; simpa using n4
  have e5 : (x.kind % 10 == 5) = false := by rw [hm]; simpa using n5
  have e6 : (x.kind % 10 == 6) = false := by rw [hm]; simpa using n6
  have e7 : (x.kind % 10 == 7) = false := by rw [hm]; simpa using n7
  have e8 : (x.kind % 10 == 8) = false := by rw [hm]; simpa using n8
  have e9 : (x.kind % 10 == 9) = false := by rw [hm]; simpa using n9
  clear hm hm0 hm9 n4 n5 n6 n7 n8 n9
  go_enter Try.func23, Try.ntmps23
  have Dd := Lib.hid D.out.drew
  go_wp2_with (fail)
  go_region_held3 (fun w' => w'.cell? ⟨bx, 0, none⟩ = some (.int .u8 x.kind) ∧ w'.cell? ⟨bx, 1, none⟩ = some (.int .i64 x.pos) ∧ w'.cell? ⟨bx, 2, none⟩ = some (.int .u8 x.byte) ∧ w'.cell? ⟨bx, 3, none⟩ = some (.int .i64 x.long) ∧ w'.cell? ⟨bx, 4, none⟩ = some K)
    (first
      | exact ⟨x0, x1, x2, x3, x4⟩
      | (go_split_ands; first
          | exact ⟨by assumption, by assumption, by assumption, by assumption, by assumption⟩
          | (have := X.out _ _ ((Step.drew (Step.refl M w0)).trans (hs1.trans hs2)); simp only [OpCells, Nat.zero_add] at this; exact this)
          | (have := X.out _ _ ((Step.drew (Step.refl M w0)).trans hs1); simp only [OpCells, Nat.zero_add] at this; exact this)))
    (first
      | (go_at_call 28; (with_reducible refine (law_data Dd.out x XOK.out K).mono ?_); rintro e w1 ⟨bb, rfl, hd1, hs1, hbb, hbn⟩)
      | (go_at_call 14; refine (law_write_all hd1 i HI.out OK.out x.pos _ x.data (by have := hbb.bytes hbn (by rw [x.data_length]; have := x.dlen_le; unfold maxLen; omega); rw [x.data_length] at this; exact this) HWR.out).mono ?_; rintro e w2 ⟨rfl, M2, hd2, hs2⟩))
  have R1 : Hid (∃ M', Disks w2 B M' (L.set i (g, (s.writeAny n x.pos x.data).2)) ∧ Step M w M' w2) := ⟨M2, hd2, (S.out.drew.trans hs1).trans hs2⟩
  clear hd1 hs1 hbb hbn hd2 hs2 Dd D S
  go_wp2_with (fail)
  go_ret2
  exact ⟨g, rfl, R1.out⟩

end Go.Proofs.Ythnolhcknhhipaa
