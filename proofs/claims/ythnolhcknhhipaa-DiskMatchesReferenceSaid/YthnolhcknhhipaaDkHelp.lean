/-
  The laws' own helpers: filled, Same, contents.
  No condition.
-/
import Derived.Test.YthnolhcknhhipaaDkLaw
namespace Go.Proofs.Ythnolhcknhhipaa
set_option linter.unusedVariables false
set_option linter.unusedSimpArgs false
open Go.RowKit

theorem ByteBlock.cell {w : World} {b : Nat} {xs : List Int} (h : ByteBlock w b xs) (j : Nat) (hj : j < xs.length) : w.cell? ⟨b, j, none⟩ = some (.int .u8 xs[j]) := by
  unfold ByteBlock at h
  simp [World.cell?, h, hj]
theorem ByteBlock.lt {w : World} {b : Nat} {xs : List Int} (h : ByteBlock w b xs) : b < w.heap.size := by
  unfold ByteBlock at h; rw [Array.getElem?_eq_some_iff] at h; exact h.1
theorem ByteBlock.froz {w : World} {b : Nat} {xs : List Int} (h : ByteBlock w b xs) (j : Nat) : w.frozen? ⟨b, j, none⟩ = false := by
  unfold ByteBlock at h
  simp [World.frozen?, h]
theorem ByteBlock.step {M M' : Nat → Prop} {w w' : World} {b : Nat} {xs : List Int} (h : ByteBlock w b xs) (hs : Step M w M' w') (hb : ¬ M b) : ByteBlock w' b xs := by
  unfold ByteBlock at *
  rw [hs.block b (by rw [Array.getElem?_eq_some_iff] at h; exact h.1) hb]; exact h
theorem ByteBlock.below {w w' : World} {b : Nat} {xs : List Int} (h : ByteBlock w b xs) (hs : Below w.heap.size w w') : ByteBlock w' b xs := heap_below hs h

/-- A whole block reads as its bytes. -/
theorem ByteBlock.bytes {w : World} {M : Nat → Prop} {b : Nat} {xs : List Int} (h : ByteBlock w b xs) (hM : ¬ M b) (hl : xs.length ≤ maxLen) : Bytes w M (.slice (some ⟨b, 0, none⟩) xs.length xs.length) xs := by
  refine ⟨_, _, rfl, Nat.le_refl _, hl, (fun h => by cases h), .inr ⟨b, 0, rfl, h.lt, hM, fun j u hu => ?_⟩⟩
  have hj : j < xs.length := by simpa using (List.getElem?_eq_some_iff.1 hu).1
  rw [Nat.zero_add, h.cell j hj, ← hu]; simp [hj]

theorem ByteBlock.bytes64 {w : World} {M : Nat → Prop} {b : Nat} {xs : List Int} (h : ByteBlock w b xs) (hM : ¬ M b) (hl : xs.length = 64) : Bytes w M (.slice (some ⟨b, 0, none⟩) 64 64) xs := by
  have := h.bytes hM (by rw [hl]; unfold maxLen; omega)
  rwa [hl] at this

/-- 64 times one byte. -/
def fill (x : Int) : List Int := List.replicate 64 x
theorem fill_length (x : Int) : (fill x).length = 64 := by simp [fill]

set_option maxHeartbeats 400000 in
theorem filled_any (w : World) (x : Int) :
    Calls Try.prog 15 #[.int .u8 x] w fun e w' => ∃ b, e = .returned (.slice (some ⟨b, 0, none⟩) 64 64) ∧ ByteBlock w' b (fill x) ∧ Below w.heap.size w w' ∧ w.heap.size ≤ b := by
  obtain ⟨i0, hi, hz0, hz1, hz2⟩ := info_parts infobyte
  go_enter Try.func15, Try.ntmps15
  go_wp2_with (at_make; refine wpList_make_full _ rfl _ _ 26 rfl 0 5 i0 (.int .u8 0) 1 Try.underlying26 hi hz0 hz1 _ _ _ _ 64 rfl rfl (by omega) (by omega) (by rw [hz2]; omega) (by unfold maxLen; omega) (Nat.zero_le _) ?_)
  intro w1 hown hg
  have hblk : Hid (ByteBlock w1 w.heap.size (List.replicate 0 x ++ List.replicate (64 - 0) 0)) := by
    show _ = _
    rw [ownsRow_full hown, toList_madeCells_one]; simp
  have hbel : Hid (Below w.heap.size w w1) := (Below.refl _ _).grown hg (Nat.le_refl _) (by simp)
  obtain ⟨b, hb⟩ : ∃ b, w.heap.size = b := ⟨_, rfl⟩
  rw [hb] at hblk ⊢
  have HB := Lib.hid hb; clear hb hown hg
  go_wp2_with (fail)
  go_loopw [4] (fun i wr => ∃ j : Nat, j ≤ 64 ∧ i = .int .i64 j ∧ Hid (ByteBlock wr b (List.replicate j x ++ List.replicate (64 - j) 0)) ∧ Hid (Below w.heap.size w wr)) (fun i _ => 64 - (intOf i).toNat)
  case atStart => exact ⟨0, by omega, rfl, hblk, hbel⟩
  case round =>
    obtain ⟨j, hj, rfl, RB, RW⟩ := hrel
    by_cases hlt : j < 64
    · have hc := RB.out.cell j (by simp; omega)
      have hc' : wr.cell? ⟨b, j, none⟩ = some (.int .u8 0) := by
        rw [hc]; congr 2
        rw [List.getElem_append_right (by simp)]; simp
      have hf := RB.out.froz j
      have R1 : Hid (ByteBlock (wr.setCell ⟨b, j, none⟩ (.int .u8 x)) b (List.replicate (j + 1) x ++ List.replicate (64 - (j + 1)) 0)) := by
        show _ = _
        rw [heap_setCell_same wr b j _ _ _ RB.out]
        congr 2
        apply Array.ext'
        simp only [Array.toList_setIfInBounds]
        rw [← List.map_set (f := Value.int .u8) (a := x)]
        congr 1
        apply List.ext_getElem?
        intro i
        simp only [List.getElem?_set, List.length_append, List.length_replicate]
        rcases Nat.lt_trichotomy i j with h | h | h
        · rw [if_neg (by omega), List.getElem?_append_left (by simp; omega), List.getElem?_append_left (by simp; omega)]
          simp [List.getElem?_replicate, h, show i < j + 1 by omega]
        · subst h
          rw [if_pos rfl, if_pos (by omega), List.getElem?_append_left (by simp)]
          simp [List.getElem?_replicate]
        · rw [if_neg (by omega), List.getElem?_append_right (by simp; omega), List.getElem?_append_right (by simp; omega)]
          simp only [List.length_replicate, List.getElem?_replicate]
          by_cases h64 : i < 64
          · rw [if_pos (by omega), if_pos (by omega)]
          · rw [if_neg (by omega), if_neg (by omega)]
      have R2 : Hid (Below w.heap.size w (wr.setCell ⟨b, j, none⟩ (.int .u8 x))) := RW.out.setCell (Nat.le_of_eq HB.out) _
      clear hc
      go_wp2
      go_roundw
      case rel => exact ⟨j + 1, by omega, by go_num, R1, R2⟩
      case measure => simp [intOf]; omega
    · obtain rfl : j = 64 := by omega
      have RB' : Hid (ByteBlock wr b (fill x)) := by
        have := RB.out
        rw [Nat.sub_self, List.replicate_zero, List.append_nil] at this
        exact this
      clear RB
      go_wp2
      go_ret
      exact ⟨b, rfl, RB'.out, RW.out, Nat.le_of_eq HB.out⟩

/-- What a readable slice gives the walk. -/
theorem Bytes.form {w : World} {M : Nat → Prop} {v : Value} {xs : List Int} (h : Bytes w M v xs) : ∃ ao cap, v = .slice ao xs.length cap ∧ xs.length ≤ 9223372036854775807 ∧ (∀ j (hj : j < xs.length), ∃ b off, ao = some ⟨b, off, none⟩ ∧ b < w.heap.size ∧ ¬ M b ∧ w.cell? ⟨b, off + j, none⟩ = some (.int .u8 xs[j])) := by
  obtain ⟨ao, cap, hv, hc, hm, h0, hx⟩ := h
  refine ⟨ao, cap, hv, by unfold maxLen at hm; omega, fun j hj => ?_⟩
  rcases hx with hx | ⟨b, off, h1, h2, h3, h4⟩
  · have : xs = [] := by simpa using hx
    subst this; simp at hj
  · exact ⟨b, off, h1, h2, h3, h4 j _ (by simp [hj])⟩

theorem take_eq_succ {α : Type} {a b : List α} {j : Nat} (ha : j < a.length) (hb : j < b.length) (h : a.take j = b.take j) (he : a[j] = b[j]) : a.take (j + 1) = b.take (j + 1) := by
  rw [take_snoc' _ _ ha, take_snoc' _ _ hb, h, he]

/-- The answer of a comparison. -/
def sameB (xs ys : List Int) : Bool := decide (xs = ys)
theorem sameB_true {xs ys : List Int} (h : xs = ys) : sameB xs ys = true := by simp [sameB, h]
theorem sameB_false {xs ys : List Int} (h : xs ≠ ys) : sameB xs ys = false := by simp [sameB, h]

set_option maxHeartbeats 1000000 in
theorem same_any (w : World) (M M' : Nat → Prop) (v u : Value) (xs ys : List Int) (hv : Bytes w M v xs) (hu : Bytes w M' u ys) :
    Calls Try.prog 18 #[v, u] w fun e w' => e = .returned (.bool (sameB xs ys)) ∧ ∃ k, w' = w.drewN k := by
  obtain ⟨av, cv, rfl, hlv, hcv⟩ := hv.form
  obtain ⟨au, cu, rfl, hlu, hcu⟩ := hu.form
  have HV := Lib.hid hcv; clear hcv hv
  have HU := Lib.hid hcu; clear hcu hu
  by_cases hl : xs.length = ys.length
  · have hl1 : ((xs.length : Int) == (ys.length : Int)) = true := by simp [hl]
    have hl2 : ((xs.length : Int) != (ys.length : Int)) = false := by simp [hl]
    have HL := Lib.hid hl; clear hl
    go_enter Try.func18, Try.ntmps18
    go_wp2_with (fail)
    go_loopw [5] (fun i wr => ∃ j : Nat, j ≤ xs.length ∧ i = .int .i64 j ∧ Hid (xs.take j = ys.take j) ∧ Hid (∃ k, wr = w.drewN k)) (fun i _ => xs.length - (intOf i).toNat)
    case atStart => exact ⟨0, Nat.zero_le _, rfl, rfl, ⟨0, rfl⟩⟩
    case round =>
      obtain ⟨j, hj, rfl, RT, RW⟩ := hrel
      obtain ⟨k, rfl⟩ := RW.out
      clear RW
      by_cases hlt : j < xs.length
      · have hlt' : j < ys.length := by have := HL.out; omega
        obtain ⟨b1, o1, rfl, q1, -, c1⟩ := HV.out j hlt
        obtain ⟨b2, o2, rfl, q2, -, c2⟩ := HU.out j hlt'
        have hj0 : (0 : Int) ≤ (j : Int) := Int.natCast_nonneg _
        have hj1 : (j : Int) < (xs.length : Int) := by omega
        have hj2 : (j : Int) < (ys.length : Int) := by omega
        obtain ⟨x, hx⟩ : ∃ x, xs[j] = x := ⟨_, rfl⟩
        obtain ⟨y, hy⟩ : ∃ y, ys[j] = y := ⟨_, rfl⟩
        rw [hx] at c1
        rw [hy] at c2
        have HX := Lib.hid hx; clear hx
        have HY := Lib.hid hy; clear hy
        by_cases he : x = y
        · have he1 : (x == y) = true := by simp [he]
          have he2 : (x != y) = false := by simp [he]
          have R1 : Hid (xs.take (j + 1) = ys.take (j + 1)) := take_eq_succ hlt hlt' RT.out (by rw [HX.out, HY.out]; exact he)
          clear he
          go_wp2_with (fail)
          go_quiet (fail)
          go_wp2
          go_roundw
          case rel => exact ⟨j + 1, by omega, by go_num, R1, ⟨_, rfl⟩⟩
          case measure => simp [intOf]; omega
        · have he1 : (x == y) = false := by simp [he]
          have he2 : (x != y) = true := by simp [he]
          have R1 : Hid (xs ≠ ys) := by
            intro h
            apply he
            rw [← HX.out, ← HY.out]
            subst h; rfl
          clear he
          go_wp2_with (fail)
          go_quiet (fail)
          go_wp2
          go_ret
          rw [sameB_false R1.out]
          exact ⟨rfl, _, World.drewN_drewN _ _ _⟩
      · have R1 : Hid (xs = ys) := by
          have h1 := RT.out
          have h2 := HL.out
          rw [List.take_of_length_le (by omega), List.take_of_length_le (by omega)] at h1
          exact h1
        go_wp2
        go_ret
        rw [sameB_true R1.out]
        exact ⟨rfl, _, rfl⟩
  · have hl1 : ((xs.length : Int) == (ys.length : Int)) = false := by simp; omega
    have hl2 : ((xs.length : Int) != (ys.length : Int)) = true := by simp; omega
    have HL : Hid (xs ≠ ys) := fun h => hl (by rw [h])
    clear hl
    go_enter Try.func18, Try.ntmps18
    go_wp2_with (fail)
    go_ret
    rw [sameB_false HL.out]
    exact ⟨rfl, 0, rfl⟩

theorem Below.drewN {B : Nat} {a w : World} (h : Below B a w) (n : Nat) : Below B a (w.drewN n) := by
  induction n with
  | zero => exact h
  | succ n ih => exact ih.drew

/-- The contents of four sectors. -/
def DS.all (s : DS) : List Int := s.read 0 ++ s.read 1 ++ s.read 2 ++ s.read 3
/-- The contents of the first j sectors. -/
def DS.upto (s : DS) : Nat → List Int
  | 0 => []
  | j + 1 => s.upto j ++ s.read j

theorem DS.read_length {s : DS} {n : Nat} (ok : s.Ok n) {k : Nat} (hk : k < n) : (s.read k).length = 64 := readFold_length (sect_length ok.dur hk) _ (fun p hp => (ok.wr p hp).2.2) _

theorem DS.upto_length {s : DS} {n : Nat} (ok : s.Ok n) : ∀ j, j ≤ n → (s.upto j).length = 64 * j
  | 0, _ => rfl
  | j + 1, h => by rw [DS.upto, List.length_append, DS.upto_length ok j (by omega), DS.read_length ok (by omega)]; omega

theorem DS.upto_all (s : DS) : s.upto 4 = s.all := by simp [DS.upto, DS.all]
theorem DS.all_length {s : DS} (ok : s.Ok 4) : s.all.length = 256 := by rw [← DS.upto_all, DS.upto_length ok 4 (Nat.le_refl _)]

/-- A row that the call owns can be read. -/
theorem bytes_of_own {w : World} {M : Nat → Prop} {base n : Nat} {v : Value} {xs : List Int} (h : w.ownsRow base 5 1 v n (xs.map (Value.int .u8))) (hl : xs.length = n) (hM : ∀ b, v.ownBlock = some b → ¬ M b) : Bytes w M v xs := by
  subst hl
  obtain ⟨ao, cap, rfl, hc, hm, h0, hx⟩ := ownsRow_shape h
  refine ⟨ao, cap, rfl, hc, hm, h0, ?_⟩
  cases ao with
  | none => exact .inl (by have := (h0 rfl).1; simpa using this)
  | some ad =>
    obtain ⟨b, off, sp⟩ := ad
    obtain ⟨e1, e2, e3, e4⟩ := hx _ rfl
    simp only at e1 e2
    subst e1; subst e2
    by_cases hne : xs = []
    · exact .inl (by simp [hne])
    · refine .inr ⟨b, 0, rfl, ?_, hM b e3, fun j u hu => ?_⟩
      · exact (h.lt b e3).2
      · have := e4 j u hu; rwa [Addr.add_lit] at this

set_option maxHeartbeats 1000000 in
theorem contents_any (w : World) (F : Nat → Prop) (g : Nat) (s : DS) (h : DiskAt w F g s) (ok : s.Ok 4) (hd : s.down = false) :
    Calls Try.prog 12 #[.pointer (some ⟨g, 0, none⟩)] w fun e w' => ∃ v, e = .returned v ∧ (∀ M : Nat → Prop, (∀ k, M k → k < w.heap.size) → Bytes w' M v s.all) ∧ Below w.heap.size w w' := by
  obtain ⟨i0, hi, hz0, hz1, hz2⟩ := info_parts infobyte
  have H := Lib.hid h; clear h
  have OK := Lib.hid ok; clear ok
  have HD := Lib.hid hd; clear hd
  go_enter Try.func12, Try.ntmps12
  go_wp2_with (fail)
  have R0 : Hid ((w.alloc (.cells #[] 5)).ownsRow w.heap.size 5 1 (.slice (some ⟨w.heap.size, 0, none⟩) 0 0) 0 ((s.upto 0).map (Value.int .u8))) := World.ownsRow_made w #[] 0 (Nat.le_refl _) (by decide) rfl
  have R1 : Hid (Below w.heap.size w (w.alloc (.cells #[] 5))) := (Below.refl _ _).alloc (Nat.le_refl _) _
  go_loopw [3, 4] (fun v i wr => ∃ j : Nat, j ≤ 4 ∧ i = .int .i64 j ∧ (∃ a n c, v = .slice a n c) ∧ Hid (wr.ownsRow w.heap.size 5 1 v (64 * j) ((s.upto j).map (Value.int .u8))) ∧ Hid (Below w.heap.size w wr)) (fun _ i _ => 4 - (intOf i).toNat)
  case atStart => exact ⟨0, by omega, rfl, ⟨_, _, _, rfl⟩, R0, R1⟩
  case round =>
    obtain ⟨j, hj, rfl, ⟨a, n, c, rfl⟩, RO, RW⟩ := hrel
    by_cases hlt : j < 4
    · go_wp2_with (fail)
      have hdisk : DiskAt wr F g s := H.out.step (Step.of_below RW.out NoB) (fun _ _ h => h)
      refine (read_any wr F g s 4 j hdisk OK.out hlt HD.out).mono ?_
      clear hdisk
      rintro e w2 ⟨b, rfl, hbb, hbel, hge⟩
      have hlen : Hid ((s.read j).length = 64) := DS.read_length OK.out hlt
      have hown : Hid (w2.ownsRow w.heap.size 5 1 (.slice a n c) (64 * j) ((s.upto j).map (Value.int .u8))) := ownsRow_below hbel RO.out
      have hb2 : Hid (Below w.heap.size w w2) := RW.out.trans (hbel.mono RW.out.size)
      have hcells : Hid (∀ i u, ((s.read j).map (Value.int .u8))[i]? = some u → w2.cell? ((⟨b, 0, none⟩ : Addr).add i) = some u) := by
        intro i u hu
        have hi : i < (s.read j).length := by simpa using (List.getElem?_eq_some_iff.1 hu).1
        rw [Addr.add_lit, Nat.zero_add, hbb.cell i hi, ← hu]; simp [hi]
      clear hbb hbel hge
      go_wp2_with (at_builtin; refine wpList_append_own _ rfl (.tmp 18) (.tmp 19) 26 rfl w.heap.size 5 i0 (.int .u8 0) 1 1 Try.underlying26 hi hz0 hz1 hz2 rfl (by decide) (.slice a n c) (64 * j) ((s.upto j).map (.int .u8)) rfl hown.out ⟨b, 0, none⟩ 64 64 ((s.read j).map (.int .u8)) rfl ?c0 ?c1 ?c2 ?c3 ?c4 ?c5 ?c6)
      case c0 => simp [hlen.out]
      case c1 => exact hcells.out
      case c2 => exact ints_oneCell _ _
      case c3 => unfold maxLen; omega
      case c4 => omega
      case c5 => exact hb2.out.size
      case c6 =>
        intro v' w3 hown3 hg3 _
        obtain ⟨a3, c3, rfl, -⟩ := ownsRow_shape hown3
        have O3 : Hid (w3.ownsRow w.heap.size 5 1 (.slice a3 (64 * j + 64) c3) (64 * (j + 1)) ((s.upto (j + 1)).map (Value.int .u8))) := by
          show World.ownsRow _ _ _ _ _ _ _
          rw [show 64 * (j + 1) = 64 * j + 64 by omega, DS.upto, List.map_append]; exact hown3
        have B3 : Hid (Below w.heap.size w w3) := hb2.out.grown hg3 hb2.out.size (fun k hk => (hown.out.lt k hk).1)
        clear hown3 hg3
        go_wp2
        go_roundw
        case rel => exact ⟨j + 1, by omega, by go_num, ⟨_, _, _, rfl⟩, O3, B3⟩
        case measure => simp [intOf]; omega
    · obtain rfl : j = 4 := by omega
      go_wp2
      go_ret
      refine ⟨_, rfl, fun M hM => ?_, RW.out⟩
      have := RO.out
      rw [DS.upto_all] at this
      exact bytes_of_own this (by rw [DS.all_length OK.out]) (fun b e hf => by have := (RO.out.lt b e).1; have := hM b hf; omega)

/-- contents, of one of several disks. -/
theorem law_contents {w : World} {B : Nat} {M : Nat → Prop} {L : List (Nat × DS)} (h : Disks w B M L) (i : Nat) {g : Nat} {s : DS} (hi : L[i]? = some (g, s)) (ok : s.Ok 4) (hd : s.down = false) :
    Calls Try.prog 12 #[.pointer (some ⟨g, 0, none⟩)] w fun e w' => ∃ v, e = .returned v ∧ Disks w' B M L ∧ Step M w M w' ∧ Bytes w' M v s.all := by
  obtain ⟨F, hd', hF, hs⟩ := h.one i g s hi
  exact (contents_any w F g s hd' ok hd).mono fun e w' ⟨v, he, h1, h2⟩ => ⟨v, he, (h.pure h2).1, (h.pure h2).2, h1 M (fun k hk => (h.2.1 k hk).2)⟩

/-- filled, beside several disks. -/
theorem law_filled {w : World} {B : Nat} {M : Nat → Prop} {L : List (Nat × DS)} (h : Disks w B M L) (x : Int) :
    Calls Try.prog 15 #[.int .u8 x] w fun e w' => ∃ b, e = .returned (.slice (some ⟨b, 0, none⟩) 64 64) ∧ Disks w' B M L ∧ Step M w M w' ∧ ByteBlock w' b (fill x) ∧ ¬ M b := by
  refine (filled_any w x).mono fun e w' ⟨b, he, h1, h2, h3⟩ => ⟨b, he, (h.pure h2).1, (h.pure h2).2, h1, fun hm => ?_⟩
  have := (h.2.1 b hm).2; omega

/-- Same, beside several disks. -/
theorem law_same {w : World} {B : Nat} {M : Nat → Prop} {L : List (Nat × DS)} (h : Disks w B M L) (v u : Value) (xs ys : List Int) (hv : Bytes w M v xs) (hu : Bytes w M u ys) :
    Calls Try.prog 18 #[v, u] w fun e w' => e = .returned (.bool (sameB xs ys)) ∧ Disks w' B M L ∧ Step M w M w' := by
  refine (same_any w M M v u xs ys hv hu).mono fun e w' ⟨he, k, hk⟩ => ?_
  subst hk
  have hb : Below w.heap.size w (w.drewN k) := Below.drewN (Below.refl _ _) k
  exact ⟨he, (h.pure hb).1, (h.pure hb).2⟩

end Go.Proofs.Ythnolhcknhhipaa
