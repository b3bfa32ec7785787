/-
  Several disks at once, and the disk's functions said of them: what a law's walk meets.
  Condition: fewer than 2^30 writes are pending.
-/
import Derived.Test.YthnolhcknhhipaaDkFuse
import Derived.Test.YthnolhcknhhipaaDkNew
import Derived.Test.YthnolhcknhhipaaDkCopy
import Derived.Test.YthnolhcknhhipaaDkWrite
namespace Go.Proofs.Ythnolhcknhhipaa
set_option linter.unusedVariables false
set_option linter.unusedSimpArgs false
open Go.RowKit

/-- The disks L lie in w, apart from each other; their blocks are of M, from B on. -/
def Disks (w : World) (B : Nat) (M : Nat → Prop) (L : List (Nat × DS)) : Prop :=
  B ≤ w.heap.size ∧ (∀ k, M k → B ≤ k ∧ k < w.heap.size) ∧ ∃ Fs : Nat → Nat → Prop, (∀ i (h : i < L.length), DiskAt w (Fs i) L[i].1 L[i].2) ∧ (∀ i j k, i < L.length → j < L.length → Fs i k → Fs j k → i = j) ∧ (∀ i k, i < L.length → Fs i k → M k)

theorem Disks.start (w : World) : Disks w w.heap.size NoB [] :=
  ⟨Nat.le_refl _, fun _ h => h.elim, fun _ => NoB, fun i h => by simp at h, fun i _ _ h => by simp at h, fun i _ h => by simp at h⟩

theorem DiskAt.lt {w : World} {F : Nat → Prop} {g : Nat} {s : DS} (h : DiskAt w F g s) : ∀ k, F k → k < w.heap.size := by
  obtain ⟨_, _, _, _, h⟩ := h; exact h.lt

/-- Work that leaves all the disks alone. -/
theorem Disks.pure {w w' : World} {B : Nat} {M : Nat → Prop} {L : List (Nat × DS)} (h : Disks w B M L) (hb : Below w.heap.size w w') : Disks w' B M L ∧ Step M w M w' := by
  obtain ⟨h0, h1, Fs, h2, h3, h4⟩ := h
  refine ⟨⟨Nat.le_trans h0 hb.size, fun k hk => ⟨(h1 k hk).1, Nat.lt_of_lt_of_le (h1 k hk).2 hb.size⟩, Fs, fun i hi => ?_, h3, h4⟩, Step.of_below hb M⟩
  exact (h2 i hi).step (Step.of_below hb NoB) (fun _ _ h => h)

theorem Disks.drew {w : World} {B : Nat} {M : Nat → Prop} {L : List (Nat × DS)} (h : Disks w B M L) : Disks w.drew B M L := (h.pure ((Below.refl _ w).drew)).1

/-- Work on one disk. -/
theorem Disks.one {w : World} {B : Nat} {M : Nat → Prop} {L : List (Nat × DS)} (h : Disks w B M L) (i : Nat) (g : Nat) (s : DS) (hi : L[i]? = some (g, s)) :
    ∃ F, DiskAt w F g s ∧ (∀ k, F k → M k) ∧ ∀ w' F' s', DiskAt w' F' g s' → Step F w F' w' → ∃ M', Disks w' B M' (L.set i (g, s')) ∧ Step M w M' w' := by
  obtain ⟨h0, h1, Fs, h2, h3, h4⟩ := h
  have hlt : i < L.length := (List.getElem?_eq_some_iff.1 hi).1
  have hgi : L[i] = (g, s) := (List.getElem?_eq_some_iff.1 hi).2
  have hd := h2 i hlt
  rw [hgi] at hd
  refine ⟨Fs i, hd, fun k hk => h4 i k hlt hk, fun w' F' s' hd' hs => ?_⟩
  have hst : Step M w (fun k => M k ∨ F' k) w' := hs.to (fun k hk => h4 i k hlt hk) (fun k hk => by
    rcases hk with hk | hk
    · exact .inl hk
    · exact (hs.grow k hk).imp (h4 i k hlt) id)
  refine ⟨fun k => M k ∨ F' k, ⟨Nat.le_trans h0 hs.size, fun k hk => ?_, fun j => if j = i then F' else Fs j, fun j hj => ?_, fun a b k ha hb hfa hfb => ?_, fun j k hj hf => ?_⟩, hst⟩
  · have hl := hd'.lt
    rcases hk with hk | hk
    · exact ⟨(h1 k hk).1, Nat.lt_of_lt_of_le (h1 k hk).2 hs.size⟩
    · refine ⟨?_, hl k hk⟩
      rcases hs.grow k hk with hf | hge
      · exact (h1 k (h4 i k hlt hf)).1
      · omega
  · by_cases hji : j = i
    · subst hji
      simp only [if_true, List.getElem_set_self]
      exact hd'
    · simp only [if_neg hji]
      rw [List.getElem_set_ne (Ne.symm hji)]
      have hjl : j < L.length := by simpa using hj
      exact (h2 j hjl).step hs (fun k hk hfi => hji (h3 j i k hjl hlt hk hfi))
  · have ha' : a < L.length := by simpa using ha
    have hb' : b < L.length := by simpa using hb
    by_cases hai : a = i <;> by_cases hbi : b = i
    · rw [hai, hbi]
    · subst hai
      simp only [if_true, if_neg hbi] at hfa hfb
      rcases hs.grow k hfa with hf | hge
      · exact h3 a b k hlt hb' hf hfb
      · have := (h1 k (h4 b k hb' hfb)).2; omega
    · subst hbi
      simp only [if_true, if_neg hai] at hfa hfb
      rcases hs.grow k hfb with hf | hge
      · exact h3 a b k ha' hlt hfa hf
      · have := (h1 k (h4 a k ha' hfa)).2; omega
    · simp only [if_neg hai, if_neg hbi] at hfa hfb
      exact h3 a b k ha' hb' hfa hfb
  · have hj' : j < L.length := by simpa using hj
    by_cases hji : j = i
    · simp only [if_pos hji] at hf; exact .inr hf
    · simp only [if_neg hji] at hf; exact .inl (h4 j k hj' hf)

/-- A new disk. -/
theorem Disks.add {w w' : World} {B : Nat} {M : Nat → Prop} {L : List (Nat × DS)} (h : Disks w B M L) (hb : Below w.heap.size w w') (F : Nat → Prop) (g : Nat) (s : DS) (hd : DiskAt w' F g s) (hF : ∀ k, F k → w.heap.size ≤ k) :
    ∃ M', Disks w' B M' (L ++ [(g, s)]) ∧ Step M w M' w' := by
  obtain ⟨h0, h1, Fs, h2, h3, h4⟩ := h
  have hst : Step M w (fun k => M k ∨ F k) w' := (Step.of_below hb M).to (fun _ h => h) (fun k hk => hk.imp id (hF k))
  refine ⟨fun k => M k ∨ F k, ⟨Nat.le_trans h0 hb.size, fun k hk => ?_, fun j => if j < L.length then Fs j else F, fun j hj => ?_, fun a b k ha hb' hfa hfb => ?_, fun j k hj hf => ?_⟩, hst⟩
  · rcases hk with hk | hk
    · exact ⟨(h1 k hk).1, Nat.lt_of_lt_of_le (h1 k hk).2 hb.size⟩
    · have := hF k hk; exact ⟨by omega, hd.lt k hk⟩
  · by_cases hjl : j < L.length
    · simp only [if_pos hjl]
      rw [List.getElem_append_left hjl]
      exact (h2 j hjl).step (Step.of_below hb NoB) (fun _ _ h => h)
    · simp only [if_neg hjl]
      have : j = L.length := by simp at hj; omega
      subst this
      simp only [List.getElem_concat_length]
      exact hd
  · simp only [List.length_append, List.length_cons, List.length_nil] at ha hb'
    by_cases hal : a < L.length <;> by_cases hbl : b < L.length
    · simp only [if_pos hal, if_pos hbl] at hfa hfb; exact h3 a b k hal hbl hfa hfb
    · simp only [if_pos hal, if_neg hbl] at hfa hfb
      have := hF k hfb; have := (h1 k (h4 a k hal hfa)).2; omega
    · simp only [if_neg hal, if_pos hbl] at hfa hfb
      have := hF k hfa; have := (h1 k (h4 b k hbl hfb)).2; omega
    · omega
  · by_cases hjl : j < L.length
    · simp only [if_pos hjl] at hf; exact .inl (h4 j k hjl hf)
    · simp only [if_neg hjl] at hf; exact .inr hf

section
variable {w : World} {B : Nat} {M : Nat → Prop} {L : List (Nat × DS)} (h : Disks w B M L) (i : Nat) {g : Nat} {s : DS} (hi : L[i]? = some (g, s)) {n : Nat} (ok : s.Ok n)
include h hi

theorem law_pending : Calls Try.prog 13 #[.pointer (some ⟨g, 0, none⟩)] w fun e w' => e = .returned (.int .i64 s.wr.length) ∧ w = w' := by
  obtain ⟨F, hd, _⟩ := h.one i g s hi
  exact pending_any w F g s hd

theorem law_power : Calls Try.prog 20 #[.pointer (some ⟨g, 0, none⟩)] w fun e w' => e = .returned (.tuple #[]) ∧ ∃ M', Disks w' B M' (L.set i (g, { s with down := false })) ∧ Step M w M' w' := by
  obtain ⟨F, hd, _, hs⟩ := h.one i g s hi
  exact (power_any w F g s hd).mono fun e w' ⟨he, h1, h2⟩ => ⟨he, hs w' F _ h1 h2⟩

include ok

theorem law_sectors : Calls Try.prog 25 #[.pointer (some ⟨g, 0, none⟩)] w fun e w' => e = .returned (.int .i64 n) ∧ w = w' := by
  obtain ⟨F, hd, _⟩ := h.one i g s hi
  exact sectors_any w F g s n hd ok

theorem law_flush : Calls Try.prog 17 #[.pointer (some ⟨g, 0, none⟩)] w fun e w' => e = .returned (.int .i64 s.flush.1) ∧ ∃ M', Disks w' B M' (L.set i (g, s.flush.2)) ∧ Step M w M' w' := by
  obtain ⟨F, hd, _, hs⟩ := h.one i g s hi
  exact (flush_any w F g s n hd ok).mono fun e w' ⟨he, h1, h2⟩ => ⟨he, hs w' F _ h1 h2⟩

theorem law_crash (v : Value) (ks : List Int) (hv : Ints w M v ks) : Calls Try.prog 19 #[.pointer (some ⟨g, 0, none⟩), v] w fun e w' => e = .returned (.tuple #[]) ∧ ∃ M', Disks w' B M' (L.set i (g, s.crash ks)) ∧ Step M w M' w' := by
  obtain ⟨F, hd, hF, hs⟩ := h.one i g s hi
  obtain ⟨ao, cap, rfl, hc, hm, h0, hx⟩ := hv
  refine (crash_any w F g s n hd ok ao cap ks ?_ hc (Nat.le_trans hc hm)).mono fun e w' ⟨he, h1, h2⟩ => ⟨he, hs w' F _ h1 h2⟩
  rcases hx with hx | ⟨b, off, h1, h2, h3, h4⟩
  · exact .inl (by simpa using hx)
  · exact .inr ⟨b, off, h1, h2, fun hf => h3 (hF b hf), h4⟩

theorem law_write (x : Int) (h0 : 0 ≤ x) (h1 : x < n) (v : Value) (data : List Int) (hdl : data.length = 64) (hv : Bytes w M v data) (hwr : s.wr.length < 1073741824) :
    Calls Try.prog 14 #[.pointer (some ⟨g, 0, none⟩), .int .i64 x, v] w fun e w' => e = .returned (.int .i64 (s.write x data).1) ∧ ∃ M', Disks w' B M' (L.set i (g, (s.write x data).2)) ∧ Step M w M' w' := by
  obtain ⟨F, hd, hF, hs⟩ := h.one i g s hi
  obtain ⟨ao, cap, rfl, hc, hm, h0', hx⟩ := hv
  obtain ⟨k, rfl⟩ := Int.eq_ofNat_of_zero_le h0
  rw [hdl]
  rcases hx with hx | ⟨b, off, rfl, h2, h3, h4⟩
  · have : data = [] := by simpa using hx
    rw [this] at hdl; simp at hdl
  · exact (write_any w F g s n k hd ok (by omega) b off cap data hdl (fun hf => h3 (hF b hf)) h4 hwr).mono fun e w' ⟨he, F', h1, h2⟩ => ⟨he, hs w' F' _ h1 h2⟩

theorem law_write_bad (x : Int) (ao : Option Addr) (m cap : Nat) (hx : x < 0 ∨ (n : Int) ≤ x ∨ m ≠ 64) :
    Calls Try.prog 14 #[.pointer (some ⟨g, 0, none⟩), .int .i64 x, .slice ao m cap] w fun e w' => e = .returned (.int .i64 1) ∧ w = w' := by
  obtain ⟨F, hd, hF, hs⟩ := h.one i g s hi
  exact write_bad w F g s n x hd ok ao m cap hx

theorem law_read (x : Int) (h0 : 0 ≤ x) (h1 : x < n) (hdn : s.down = false) :
    Calls Try.prog 16 #[.pointer (some ⟨g, 0, none⟩), .int .i64 x] w fun e w' => ∃ b, e = .returned (.tuple #[.slice (some ⟨b, 0, none⟩) 64 64, .int .i64 0]) ∧ Disks w' B M L ∧ Step M w M w' ∧ ByteBlock w' b (s.read x.toNat) ∧ w.heap.size ≤ b ∧ ¬ M b := by
  obtain ⟨F, hd, hF, hs⟩ := h.one i g s hi
  obtain ⟨k, rfl⟩ := Int.eq_ofNat_of_zero_le h0
  refine (read_any w F g s n k hd ok (by omega) hdn).mono fun e w' ⟨b, he, h1, h2, h3⟩ => ⟨b, he, (h.pure h2).1, (h.pure h2).2, by simpa using h1, h3, fun hm => ?_⟩
  have := (h.2.1 b hm).2; omega

theorem law_read_down (x : Int) (h0 : 0 ≤ x) (h1 : x < n) (hdn : s.down = true) :
    Calls Try.prog 16 #[.pointer (some ⟨g, 0, none⟩), .int .i64 x] w fun e w' => e = .returned (.tuple #[.slice none 0 0, .int .i64 340]) ∧ w = w' := by
  obtain ⟨F, hd, hF, hs⟩ := h.one i g s hi
  obtain ⟨k, rfl⟩ := Int.eq_ofNat_of_zero_le h0
  exact read_down w F g s n k hd ok (by omega) hdn

theorem law_read_out (x : Int) (hx : x < 0 ∨ (n : Int) ≤ x) :
    Calls Try.prog 16 #[.pointer (some ⟨g, 0, none⟩), .int .i64 x] w fun e w' => e = .returned (.tuple #[.slice none 0 0, .int .i64 1]) ∧ w = w' := by
  obtain ⟨F, hd, hF, hs⟩ := h.one i g s hi
  exact read_out w F g s n x hd ok hx

theorem law_copy (h2 : s.wr.length < 1073741824) (h3 : s.kept.length * 8 ≤ 140737488355328) :
    Calls Try.prog 27 #[.pointer (some ⟨g, 0, none⟩)] w fun e w' => ∃ g', e = .returned (.pointer (some ⟨g', 0, none⟩)) ∧ ∃ M', Disks w' B M' (L ++ [(g', s)]) ∧ Step M w M' w' := by
  obtain ⟨F, hd, hF, hs⟩ := h.one i g s hi
  have := ok.lo
  have := ok.hi
  have := ok.dur
  exact (copy_any w F g s hd (by omega) (by omega) (by omega) h3).mono fun e w' ⟨g', he, F', h1, h4, h5⟩ => ⟨g', he, h.add h4 F' g' s h1 h5⟩

omit ok
theorem law_fuse (x : Int) (v : Value) (ks : List Int) (hv : Ints w M v ks) (hk : ks.length * 8 ≤ 140737488355328) : Calls Try.prog 29 #[.pointer (some ⟨g, 0, none⟩), .int .i64 x, v] w fun e w' => e = .returned (.tuple #[]) ∧ ∃ M', Disks w' B M' (L.set i (g, { s with fuse := max x 0, kept := ks })) ∧ Step M w M' w' := by
  obtain ⟨F, hd, hF, hs⟩ := h.one i g s hi
  obtain ⟨ao, cap, rfl, hc, hm, h0, hx⟩ := hv
  refine (fuse_any w F g s hd x ao cap ks h0 ?_ hk).mono fun e w' ⟨he, F', h1, h2⟩ => ⟨he, hs w' F' _ h1 h2⟩
  intro ad ha j u hu
  rcases hx with hx | ⟨b, off, h1, h2, h3, h4⟩
  · rw [hx] at hu; simp at hu
  · rw [h1] at ha; cases ha; rw [Addr.add_lit]; exact h4 j u hu
end

theorem law_new {w : World} {B : Nat} {M : Nat → Prop} {L : List (Nat × DS)} (h : Disks w B M L) (n : Nat) (h1 : 1 ≤ n) (h2 : n ≤ 65536) :
    Calls Try.prog 21 #[.int .i64 n] w fun e w' => ∃ g, e = .returned (.tuple #[.pointer (some ⟨g, 0, none⟩), .int .i64 0]) ∧ ∃ M', Disks w' B M' (L ++ [(g, DS.new n)]) ∧ Step M w M' w' :=
  (new_any w n h1 h2).mono fun e w' ⟨g, he, F, hd, hb, hF⟩ => ⟨g, he, h.add hb F g _ hd hF⟩

end Go.Proofs.Ythnolhcknhhipaa
