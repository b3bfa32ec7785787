/-
  DiskMemory: the walk.
  No condition.
-/
import Derived.Test.YthnolhcknhhipaaDkFour
import Derived.Test.YthnolhcknhhipaaDkFuseWalk
namespace Go.Proofs.Ythnolhcknhhipaa
set_option linter.unusedVariables false
set_option linter.unusedSimpArgs false
open Go.RowKit

theorem law_filled_new {w : World} {B : Nat} {M : Nat → Prop} {L : List (Nat × DS)} (h : Disks w B M L) (x : Int) :
    Calls Try.prog 15 #[.int .u8 x] w fun e w' => ∃ b, e = .returned (.slice (some ⟨b, 0, none⟩) 64 64) ∧ Disks w' B M L ∧ Step M w M w' ∧ ByteBlock w' b (fill x) ∧ ¬ M b ∧ w.heap.size ≤ b := by
  refine (filled_any w x).mono fun e w' ⟨b, he, h1, h2, h3⟩ => ⟨b, he, (h.pure h2).1, (h.pure h2).2, h1, fun hm => ?_, h3⟩
  have := (h.2.1 b hm).2; omega

/-- One cell of a block of the call's own that is no disk's is written. -/
theorem Disks.poke {w0 w : World} {M : Nat → Prop} {L : List (Nat × DS)} {B : Nat} (h : Disks w B M L) (hs : Step NoB w0 M w) (b j : Nat) (hb : ¬ M b) (hw : w0.heap.size ≤ b) (u : Value) : Disks (w.setCell ⟨b, j, none⟩ u) B M L ∧ Step NoB w0 M (w.setCell ⟨b, j, none⟩ u) :=
  ⟨h.aside ((Step.refl (fun k => k = b) w).setCell (.inl rfl) u) (fun k hk e => hb (e ▸ hk)), hs.setCell (.inr hw) u⟩
theorem fill_get (y : Int) (j : Nat) (h : j < (fill y).length) : (fill y)[j] = y := List.getElem_replicate ..

set_option maxRecDepth 100000 in
set_option maxHeartbeats 4000000 in
theorem memory_walk (w : World) (v : Value) (ops : List OpD) (hv : OpsAt w NoB v ops) (y x : Int) (hy0 : 0 ≤ y) (hy1 : y ≤ 255) (hx0 : 0 ≤ x) (hx1 : x ≤ 255) :
    Calls Try.prog 9 #[v, .int .u8 y, .int .u8 x] w fun e w' => e = .returned (.bool true) ∧ Below w.heap.size w w' := by
  have HV := Lib.hid hv; clear hv
  go_enter Try.func9, Try.ntmps9
  go_wp2_with (fail)
  refine (sanity_any w).mono ?_
  rintro e w1 ⟨rfl, hb⟩
  have D1 : Hid (Disks w1 w.heap.size NoB []) := ((Disks.start w).pure hb).1
  have S1 : Hid (Step NoB w NoB w1) := ((Disks.start w).pure hb).2
  have V1 : Hid (OpsAt w1 NoB v ops) := HV.out.step S1.out
  clear hb
  go_wp2_with (fail)
  refine (law_prepared D1.out v ops V1.out).mono ?_
  rintro e w2 ⟨g, rfl, M2, hd, hs⟩
  have D2 := Lib.hid hd; have S2 := Lib.hid (S1.out.trans hs)
  clear hd hs D1 S1 V1
  have U : Hid ((prep ops).Up 20) := prep_up ops
  generalize hp : prep ops = s at D2 U
  clear hp
  go_wp2_with (fail)
  have Hk : Hid (0 ≤ x % 4 ∧ x % 4 < 4) := ⟨by omega, by omega⟩
  clear hx0 hx1
  generalize x % 4 = k at Hk ⊢
  refine (law_filled_new D2.out y).mono ?_
  rintro e w3 ⟨bd, rfl, hd, hs, hb, hn, hge⟩
  have GE : Hid (w.heap.size ≤ bd) := Nat.le_trans S2.out.size hge
  clear hge
  have D3 := Lib.hid hd; have S3 := Lib.hid (S2.out.trans hs); have B3 := Lib.hid hb; have N3 := Lib.hid hn
  clear hd hs hb hn D2 S2
  go_wp2_with (fail)
  -- the numbers to be kept lie in a row of their own
  obtain ⟨bk, hbk⟩ : ∃ bk, w3.heap.size = bk := ⟨_, rfl⟩
  obtain ⟨w4, hw4⟩ : ∃ w4, w3.alloc (.cells #[.int .i64 7] 3) = w4 := ⟨_, rfl⟩
  have hal : Below w3.heap.size w3 (w3.alloc (.cells #[.int .i64 7] 3)) := (Below.refl _ _).alloc (Nat.le_refl _) _
  have I4 : Hid (Ints w4 M2 (.slice (some ⟨bk, 0, none⟩) 1 1) [7]) := by
    have := ints_one (fun j hj => (D3.out.2.1 j hj).2) 7
    rw [hw4, hbk] at this; exact this
  have K4 : Hid (w4.heap[bk]? = some (.cells #[.int .i64 7] 3 (0, 0))) := by
    have := heap_alloc_new w3 (.cells #[.int .i64 7] 3)
    rw [hw4, hbk] at this; exact this
  have NK4 : Hid (¬ M2 bk) := fun h => by have := (D3.out.2.1 bk h).2; omega
  have GK : Hid (w.heap.size ≤ bk) := by have := S3.out.size; show _ ≤ _; omega
  have NE : Hid (bd ≠ bk) := by have := B3.out.lt; show _ ≠ _; omega
  rw [hw4] at hal ⊢
  rw [hbk]
  have D4 : Hid (Disks w4 w.heap.size M2 [(g, s)]) := (D3.out.pure hal).1
  have S4 : Hid (Step NoB w M2 w4) := S3.out.trans (D3.out.pure hal).2
  have B4 : Hid (ByteBlock w4 bd (fill y)) := B3.out.below hal
  clear hal hw4 hbk D3 S3 B3
  have U2 : Hid ((s.write k (fill y)).2.Up 21) := U.out.written k Hk.out.1 Hk.out.2 (fill y) (fill_length _)
  have hr : Hid ((s.write k (fill y)).2.read k.toNat = fill y) := by
    show _ = _
    rw [U.out.read_write, if_pos (by have := Hk.out; omega)]
  refine (law_write D4.out 0 rfl U.out.ok k Hk.out.1 Hk.out.2 _ (fill y) (fill_length _) (B4.out.bytes64 N3.out (fill_length _)) (by have := U.out.wr; omega)).mono ?_
  rw [show s.write k (fill y) = (0, (s.write k (fill y)).2) from by rw [U.out.write]]
  generalize (s.write k (fill y)).2 = s2 at U2 hr ⊢
  rintro e w5 ⟨rfl, M5, hd, hs⟩
  have D5 : Hid (Disks w5 w.heap.size M5 [(g, s2)]) := hd
  have S5 := Lib.hid (S4.out.trans hs)
  have I5 := Lib.hid (I4.out.step hs)
  have B5 := Lib.hid (B4.out.step hs N3.out)
  have N5 : Hid (¬ M5 bd) := hs.away B4.out.lt N3.out
  have K5 : Hid (w5.heap[bk]? = some (.cells #[.int .i64 7] 3 (0, 0))) := by
    show _ = _
    rw [hs.block bk (by have := K4.out; rw [Array.getElem?_eq_some_iff] at this; exact this.1) NK4.out]; exact K4.out
  have NK5 : Hid (¬ M5 bk) := hs.away (by have := K4.out; rw [Array.getElem?_eq_some_iff] at this; exact this.1) NK4.out
  clear hd hs D4 S4 I4 B4 N3 K4 NK4
  go_wp2_with (fail)
  refine (law_fuse D5.out 0 rfl 2 _ [7] I5.out (by simp)).mono ?_
  rintro e w6 ⟨rfl, M6, hd, hs⟩
  have D6 : Hid (Disks w6 w.heap.size M6 [(g, s2.lit 2 [7])]) := hd
  have S6 := Lib.hid (S5.out.trans hs)
  have B6 := Lib.hid (B5.out.step hs N5.out)
  have N6 : Hid (¬ M6 bd) := hs.away B5.out.lt N5.out
  have K6 : Hid (w6.heap[bk]? = some (.cells #[.int .i64 7] 3 (0, 0))) := by
    show _ = _
    rw [hs.block bk (by have := K5.out; rw [Array.getElem?_eq_some_iff] at this; exact this.1) NK5.out]; exact K5.out
  have NK6 : Hid (¬ M6 bk) := hs.away (by have := K5.out; rw [Array.getElem?_eq_some_iff] at this; exact this.1) NK5.out
  clear hd hs D5 S5 I5 B5 N5 K5 NK5
  have OKL : Hid ((s2.lit 2 [7]).Ok 4) := U2.out.lit_ok _ _ (by omega) (by omega) (by simp)
  have q0 := B6.out.cell 0 (by rw [fill_length]; omega)
  rw [fill_get] at q0
  have q1 := B6.out.froz 0
  have q2 : w6.frozen? ⟨bk, 0, none⟩ = false := by simp [World.frozen?, K6.out]
  have q3 : (w6.setCell ⟨bd, 0, none⟩ (.int .u8 ((y + 1) % 256))).cell? ⟨bk, 0, none⟩ = some (.int .i64 7) := by
    have h1 : (w6.setCell ⟨bd, 0, none⟩ (.int .u8 ((y + 1) % 256))).heap[bk]? = w6.heap[bk]? := heap_setCell_other w6 ⟨bd, 0, none⟩ bk _ (fun e => NE.out e.symm)
    simp only [World.cell?, h1, K6.out]; rfl
  have hp1 := D6.out.poke S6.out bd 0 N6.out GE.out (.int .u8 ((y + 1) % 256))
  have hp2 := hp1.1.poke hp1.2 bk 0 NK6.out GK.out (.int .i64 64)
  have D7 := Lib.hid hp2.1; have S7 := Lib.hid hp2.2
  clear hp1 hp2 D6 S6 B6 N6 K6 NK6 NE GE GK
  go_wp2_with (fail)
  refine (law_read D7.out 0 rfl OKL.out k Hk.out.1 Hk.out.2 U2.out.down).mono ?_
  rw [show (s2.lit 2 [7]).read k.toNat = fill y from hr.out]
  clear q0 q1 q2 q3
  rintro e w8 ⟨b8, rfl, hd, hs, hb, hge, hn⟩
  have D8 := Lib.hid hd; have S8 := Lib.hid (S7.out.trans hs); have B8 := Lib.hid hb; have N8 := Lib.hid hn
  have G8 : Hid (w.heap.size ≤ b8) := Nat.le_trans S7.out.size hge
  clear hd hs hb hge hn D7 S7
  go_wp2_with (fail)
  refine (law_filled D8.out y).mono ?_
  rintro e w9 ⟨b9, rfl, hd, hs, hb, hn⟩
  have D9 := Lib.hid hd; have S9 := Lib.hid (S8.out.trans hs); have C9 := Lib.hid (hb.bytes64 hn (fill_length _)); have B9 := Lib.hid (B8.out.step hs N8.out)
  have N9 : Hid (¬ M6 b8) := hs.away B8.out.lt N8.out
  clear hd hs hb hn D8 S8 B8 N8
  go_wp2_with (fail)
  refine (law_same D9.out _ _ _ _ (B9.out.bytes64 N9.out (fill_length _)) C9.out).mono ?_
  rw [sameB_true rfl]
  rintro e w10 ⟨rfl, hd, hs⟩
  have D10 := Lib.hid hd; have S10 := Lib.hid (S9.out.trans hs); have B10 := Lib.hid (B9.out.step hs N9.out)
  have N10 : Hid (¬ M6 b8) := hs.away B9.out.lt N9.out
  clear hd hs D9 S9 C9 B9 N9
  have q0 := B10.out.cell 5 (by rw [fill_length]; omega)
  rw [fill_get] at q0
  have q1 := B10.out.froz 5
  have hp1 := D10.out.poke S10.out b8 5 N10.out G8.out (.int .u8 ((y + 1) % 256))
  have D11 := Lib.hid hp1.1; have S11 := Lib.hid hp1.2
  clear hp1 D10 S10 B10 N10 G8
  go_wp2_with (fail)
  refine (law_read D11.out 0 rfl OKL.out k Hk.out.1 Hk.out.2 U2.out.down).mono ?_
  rw [show (s2.lit 2 [7]).read k.toNat = fill y from hr.out]
  clear q0 q1
  rintro e w12 ⟨b12, rfl, hd, hs, hb, hge, hn⟩
  have D12 := Lib.hid hd; have S12 := Lib.hid (S11.out.trans hs); have B12 := Lib.hid (hb.bytes64 hn (fill_length _))
  clear hd hs hb hge hn D11 S11
  go_wp2_with (fail)
  refine (law_copy D12.out 0 rfl OKL.out (by have := U2.out.wr; show s2.wr.length < _; omega) (by show [(7 : Int)].length * 8 ≤ _; decide)).mono ?_
  rintro e w13 ⟨g1, rfl, M13, hd, hs⟩
  have D13 : Hid (Disks w13 w.heap.size M13 [(g, s2.lit 2 [7]), (g1, s2.lit 2 [7])]) := hd
  have S13 := Lib.hid (S12.out.trans hs); have B13 := Lib.hid (B12.out.step hs)
  clear hd hs D12 S12 B12
  go_wp2_with (fail)
  refine (law_filled D13.out y).mono ?_
  rintro e w14 ⟨b14, rfl, hd, hs, hb, hn⟩
  have D14 := Lib.hid hd; have S14 := Lib.hid (S13.out.trans hs); have B14 := Lib.hid (B13.out.step hs); have C14 := Lib.hid (hb.bytes64 hn (fill_length _))
  clear hd hs hb hn D13 S13 B13
  go_wp2_with (fail)
  refine (law_same D14.out _ _ _ _ B14.out C14.out).mono ?_
  rw [sameB_true rfl]
  rintro e w15 ⟨rfl, hd, hs⟩
  have D15 := Lib.hid hd; have S15 := Lib.hid (S14.out.trans hs)
  clear hd hs D14 S14 B14 C14
  have hfl : (s2.lit 2 [7]).flush = (0, s2.flush.2.lit 1 [7]) := U2.out.lit_flush 2 [7] (by omega)
  have HFL := Lib.hid hfl; clear hfl
  have U3 : Hid (s2.flush.2.Up 0) := U2.out.flushed
  have hr3 : Hid (s2.flush.2.read k.toNat = fill y) := by show _ = _; rw [U2.out.read_flush _ (by have := Hk.out; omega)]; exact hr.out
  go_wp2_with (fail)
  refine (law_flush D15.out 1 rfl OKL.out).mono ?_
  rw [HFL.out]
  rintro e w16 ⟨rfl, M16, hd, hs⟩
  have D16 : Hid (Disks w16 w.heap.size M16 [(g, s2.lit 2 [7]), (g1, s2.flush.2.lit 1 [7])]) := hd
  have S16 := Lib.hid (S15.out.trans hs)
  clear hd hs D15 S15
  go_wp2_with (fail)
  refine (law_flush D16.out 0 rfl OKL.out).mono ?_
  rw [HFL.out]
  rintro e w17 ⟨rfl, M17, hd, hs⟩
  have D17 : Hid (Disks w17 w.heap.size M17 [(g, s2.flush.2.lit 1 [7]), (g1, s2.flush.2.lit 1 [7])]) := hd
  have S17 := Lib.hid (S16.out.trans hs)
  clear hd hs D16 S16 OKL HFL
  generalize s2.flush.2 = s3 at D17 U3 hr3
  have OKL : Hid ((s3.lit 1 [7]).Ok 4) := U3.out.lit_ok _ _ (by omega) (by omega) (by simp)
  go_wp2_with (fail)
  refine (law_read D17.out 0 rfl OKL.out k Hk.out.1 Hk.out.2 U3.out.down).mono ?_
  rw [show (s3.lit 1 [7]).read k.toNat = fill y from hr3.out]
  rintro e w18 ⟨b18, rfl, hd, hs, hb, hge, hn⟩
  have D18 := Lib.hid hd; have S18 := Lib.hid (S17.out.trans hs); have B18 := Lib.hid hb
  have G18 : Hid (w.heap.size ≤ b18) := Nat.le_trans S17.out.size hge
  have N18 := Lib.hid hn
  clear hd hs hb hge hn D17 S17
  have q0 := B18.out.cell 9 (by rw [fill_length]; omega)
  rw [fill_get] at q0
  have q1 := B18.out.froz 9
  have hp1 := D18.out.poke S18.out b18 9 N18.out G18.out (.int .u8 ((y + 1) % 256))
  have D19 := Lib.hid hp1.1; have S19 := Lib.hid hp1.2
  clear hp1 D18 S18 B18 N18 G18
  go_wp2_with (fail)
  refine (law_read D19.out 0 rfl OKL.out k Hk.out.1 Hk.out.2 U3.out.down).mono ?_
  rw [show (s3.lit 1 [7]).read k.toNat = fill y from hr3.out]
  clear q0 q1
  rintro e w20 ⟨b20, rfl, hd, hs, hb, hge, hn⟩
  have D20 := Lib.hid hd; have S20 := Lib.hid (S19.out.trans hs); have B20 := Lib.hid (hb.bytes64 hn (fill_length _))
  clear hd hs hb hge hn D19 S19
  go_wp2_with (fail)
  refine (law_filled D20.out y).mono ?_
  rintro e w21 ⟨b21, rfl, hd, hs, hb, hn⟩
  have D21 := Lib.hid hd; have S21 := Lib.hid (S20.out.trans hs); have B21 := Lib.hid (B20.out.step hs); have C21 := Lib.hid (hb.bytes64 hn (fill_length _))
  clear hd hs hb hn D20 S20 B20
  go_wp2_with (fail)
  refine (law_same D21.out _ _ _ _ B21.out C21.out).mono ?_
  rw [sameB_true rfl]
  rintro e w22 ⟨rfl, hd, hs⟩
  have S22 := Lib.hid (S21.out.trans hs)
  clear hd hs D21 S21 B21 C21
  go_wp2_with (fail)
  go_ret
  exact ⟨rfl, S22.out.below⟩

end Go.Proofs.Ythnolhcknhhipaa
