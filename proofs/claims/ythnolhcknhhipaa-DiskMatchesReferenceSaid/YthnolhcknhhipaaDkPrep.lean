/-
  The laws' own helper prepared; the operations that come in.
  No condition.
-/
import Derived.Test.YthnolhcknhhipaaDkHelp
import Derived.Deep.RegionHeld3
namespace Go.Proofs.Ythnolhcknhhipaa
set_option linter.unusedVariables false
set_option linter.unusedSimpArgs false
open Go.RowKit

/-- An operation as data. -/
structure OpD where
  kind : Int
  pos : Int
  byte : Int
  long : Int
  kept : List Int

/-- The five cells of an operation. -/
def OpCells (w : World) (b o : Nat) (x : OpD) (K : Value) : Prop :=
  w.cell? ⟨b, o, none⟩ = some (.int .u8 x.kind) ∧ w.cell? ⟨b, o + 1, none⟩ = some (.int .i64 x.pos) ∧ w.cell? ⟨b, o + 2, none⟩ = some (.int .u8 x.byte) ∧ w.cell? ⟨b, o + 3, none⟩ = some (.int .i64 x.long) ∧ w.cell? ⟨b, o + 4, none⟩ = some K

structure OpD.Ok (x : OpD) : Prop where
  k0 : 0 ≤ x.kind
  k1 : x.kind ≤ 255
  p0 : -9223372036854775808 ≤ x.pos
  p1 : x.pos ≤ 9223372036854775807
  b0 : 0 ≤ x.byte
  b1 : x.byte ≤ 255
  l0 : -9223372036854775808 ≤ x.long
  l1 : x.long ≤ 9223372036854775807
  keptIn : ∀ y ∈ x.kept, -9223372036854775808 ≤ y ∧ y ≤ 9223372036854775807

/-- The slice v reads as these operations. -/
def OpsAt (w : World) (M : Nat → Prop) (v : Value) (ops : List OpD) : Prop :=
  ∃ ao cap, v = .slice ao ops.length cap ∧ ops.length ≤ cap ∧ cap ≤ maxLen ∧ (∀ x ∈ ops, x.Ok) ∧
    ∀ i (hi : i < ops.length), ∃ b off K, ao = some ⟨b, off, none⟩ ∧ b < w.heap.size ∧ ¬ M b ∧ OpCells w b (off + i * 5) ops[i] K ∧ Ints w M K ops[i].kept

theorem OpCells.step {M M' : Nat → Prop} {w w' : World} {b o : Nat} {x : OpD} {K : Value} (h : OpCells w b o x K) (hs : Step M w M' w') (hb : ¬ M b) : OpCells w' b o x K :=
  ⟨hs.cell hb h.1, hs.cell hb h.2.1, hs.cell hb h.2.2.1, hs.cell hb h.2.2.2.1, hs.cell hb h.2.2.2.2⟩

theorem OpsAt.step {M M' : Nat → Prop} {w w' : World} {v : Value} {ops : List OpD} (h : OpsAt w M v ops) (hs : Step M w M' w') : OpsAt w' M' v ops := by
  obtain ⟨ao, cap, hv, hc, hm, ho, hx⟩ := h
  refine ⟨ao, cap, hv, hc, hm, ho, fun i hi => ?_⟩
  obtain ⟨b, off, K, ha, hb, hmb, hcell, hk⟩ := hx i hi
  exact ⟨b, off, K, ha, Nat.lt_of_lt_of_le hb hs.size, hs.away hb hmb, hcell.step hs hmb, hk.step hs⟩

theorem OpsAt.get {w : World} {M : Nat → Prop} {ao : Option Addr} {n cap : Nat} {ops : List OpD} (h : OpsAt w M (.slice ao n cap) ops) (i : Nat) (hi : i < ops.length) :
    ∃ b off K, ao = some ⟨b, off, none⟩ ∧ b < w.heap.size ∧ ¬ M b ∧ OpCells w b (off + i * 5) ops[i] K ∧ Ints w M K ops[i].kept := by
  obtain ⟨ao', cap', hv, hc, hm, ho, hx⟩ := h
  cases hv
  exact hx i hi

/-- The sector that the laws make of a number. -/
def at4 (x : Int) : Int := (x.tmod 4 + 4).tmod 4
theorem at4_bd (x : Int) : 0 ≤ at4 x ∧ at4 x < 4 := by
  unfold at4
  have h1 := Int.lt_tmod_of_pos x (show (0 : Int) < 4 by omega)
  have h2 := Int.tmod_lt_of_pos x (show (0 : Int) < 4 by omega)
  rw [Int.tmod_eq_emod_of_nonneg (by omega)]
  omega
theorem tmod4_bd (x : Int) : -4 < x.tmod 4 ∧ x.tmod 4 < 4 :=
  ⟨Int.lt_tmod_of_pos x (by omega), Int.tmod_lt_of_pos x (by omega)⟩

theorem DS.power_ok {s : DS} {n : Nat} (ok : s.Ok n) : DS.Ok n { s with down := false } := ⟨ok.dur, ok.lo, ok.hi, ok.wr, ok.fuse0, ok.fuse1, ok.kept⟩
theorem DS.fuse_ok {s : DS} {n : Nat} (ok : s.Ok n) (x : Int) (hx : x ≤ 9223372036854775807) (ks : List Int) (hk : ∀ y ∈ ks, -9223372036854775808 ≤ y ∧ y ≤ 9223372036854775807) : DS.Ok n { s with fuse := max x 0, kept := ks } :=
  ⟨ok.dur, ok.lo, ok.hi, ok.wr, by simp only; omega, by simp only; omega, hk⟩

/-- One step of prepared. -/
def DS.prep1 (s : DS) (x : OpD) : DS := if x.kind % 10 = 4 then s.flush.2 else (s.write (at4 x.pos) (fill x.byte)).2
/-- The disk that prepared makes. -/
def prep (ops : List OpD) : DS := (ops.take 20).foldl DS.prep1 (DS.new 4)

/-- A disk with power and without a fuse. -/
structure DS.Up (s : DS) (k : Nat) : Prop where
  ok : s.Ok 4
  down : s.down = false
  fuse : s.fuse = 0
  wr : s.wr.length ≤ k
  kept : s.kept = []

theorem DS.Up.ready {s : DS} {k : Nat} (h : s.Up k) : s.ready = (0, s) := by
  unfold DS.ready
  rw [if_neg (by rw [h.down]; simp), if_neg (by rw [h.fuse]; omega)]
  have := h.fuse
  cases s; simp only at this; subst this; rfl
theorem DS.Up.flush {s : DS} {k : Nat} (h : s.Up k) : s.flush = (0, { s with dur := flushFold s.dur s.wr, wr := [] }) := by
  unfold DS.flush; rw [h.ready, if_pos rfl]
theorem DS.Up.write {s : DS} {k : Nat} (h : s.Up k) (x : Int) (data : List Int) : s.write x data = (0, { s with wr := s.wr ++ [(x, data)] }) := by
  unfold DS.write; rw [h.ready, if_pos rfl]
theorem DS.Up.flushed {s : DS} {k : Nat} (h : s.Up k) : s.flush.2.Up 0 := by
  have := DS.flush_ok h.ok
  rw [h.flush] at this ⊢
  exact ⟨this, h.down, h.fuse, by simp, h.kept⟩
theorem DS.Up.written {s : DS} {k : Nat} (h : s.Up k) (x : Int) (h0 : 0 ≤ x) (h1 : x < 4) (data : List Int) (hd : data.length = 64) : (s.write x data).2.Up (k + 1) := by
  have := DS.write_ok h.ok x h0 (by omega) data hd
  have hw := h.wr
  rw [h.write] at this ⊢
  exact ⟨this, h.down, h.fuse, by simp; omega, h.kept⟩
theorem DS.Up.mono {s : DS} {k k' : Nat} (h : s.Up k) (hk : k ≤ k') : s.Up k' := ⟨h.ok, h.down, h.fuse, Nat.le_trans h.wr hk, h.kept⟩
theorem DS.Up.prep1 {s : DS} {k : Nat} (h : s.Up k) (x : OpD) : (s.prep1 x).Up (k + 1) := by
  unfold DS.prep1
  split
  · exact h.flushed.mono (by omega)
  · have := at4_bd x.pos
    exact h.written _ this.1 this.2 _ (fill_length _)
theorem DS.Up.new : (DS.new 4).Up 0 := ⟨DS.new_ok (by omega) (by omega), rfl, rfl, Nat.le_refl _, rfl⟩
theorem foldl_up (l : List OpD) : ∀ {s : DS} {k : Nat}, s.Up k → (l.foldl DS.prep1 s).Up (k + l.length) := by
  induction l with
  | nil => intro s k h; exact h
  | cons x l ih => intro s k h; simp only [List.foldl_cons, List.length_cons]; exact (ih (h.prep1 x)).mono (by omega)
theorem prep_up (ops : List OpD) : (prep ops).Up 20 := (foldl_up (ops.take 20) DS.Up.new).mono (by simp; omega)
/-- The disk behind j steps. -/
def prepTo (ops : List OpD) (j : Nat) : DS := (ops.take j).foldl DS.prep1 (DS.new 4)
theorem prepTo_up (ops : List OpD) (j : Nat) : (prepTo ops j).Up j := (foldl_up (ops.take j) DS.Up.new).mono (by simp; omega)
theorem prepTo_succ (ops : List OpD) (j : Nat) (h : j < ops.length) : prepTo ops (j + 1) = (prepTo ops j).prep1 ops[j] := by
  unfold prepTo; rw [take_snoc' _ _ h, List.foldl_append]; rfl

set_option maxHeartbeats 1000000 in
theorem law_prepared {w : World} {B : Nat} {M : Nat → Prop} (h : Disks w B M []) (v : Value) (ops : List OpD) (hv : OpsAt w M v ops) :
    Calls Try.prog 11 #[v] w fun e w' => ∃ g, e = .returned (.pointer (some ⟨g, 0, none⟩)) ∧ ∃ M', Disks w' B M' [(g, prep ops)] ∧ Step M w M' w' := by
  have HV := Lib.hid hv
  obtain ⟨ao, cap, rfl, hlc, hcm, hok, -⟩ := hv
  have hol : ops.length ≤ 9223372036854775807 := by unfold maxLen at hcm; omega
  have OK := Lib.hid hok; clear hok
  go_enter Try.func11, Try.ntmps11
  go_wp2_with (fail)
  refine (law_new h 4 (by omega) (by omega)).mono ?_
  rintro e w1 ⟨g, rfl, M1, hd, hs⟩
  have D1 : Hid (Disks w1 B M1 [(g, prepTo ops 0)]) := hd
  have S1 := Lib.hid hs; clear hs hd
  go_wp2_with (fail)
  go_loopw [5] (fun i wr => ∃ j : Nat, j ≤ ops.length ∧ j ≤ 20 ∧ i = .int .i64 j ∧ Hid (∃ M', Disks wr B M' [(g, prepTo ops j)] ∧ Step M w M' wr)) (fun i _ => 20 - (intOf i).toNat)
  case atStart => exact ⟨0, Nat.zero_le _, by omega, rfl, ⟨M1, D1.out, S1.out⟩⟩
  case round =>
    obtain ⟨j, hj, hj20, rfl, RD⟩ := hrel
    obtain ⟨M', hd, hs⟩ := RD.out
    have D := Lib.hid hd; clear hd
    have S := Lib.hid hs; clear hs
    clear RD
    by_cases hlt : j < ops.length ∧ j < 20
    · obtain ⟨hlt, h20⟩ := hlt
      obtain ⟨b, off, K, rfl, hbl, hbm, hcell, -⟩ := (HV.out.step S.out).get j hlt
      obtain ⟨x, hx⟩ : ∃ x, ops[j] = x := ⟨_, rfl⟩
      rw [hx] at hcell
      have xok := OK.out x (hx ▸ List.getElem_mem hlt)
      obtain ⟨ck, cp, cb, -, -⟩ := hcell
      have HT : Hid (prepTo ops (j + 1) = (prepTo ops j).prep1 x) := by show _ = _; rw [prepTo_succ _ _ hlt, hx]
      have U := Lib.hid (prepTo_up ops j)
      have hj1 : (j : Int) < (ops.length : Int) := by omega
      have hj2 : (j : Int) < 20 := by omega
      have hj0 : (0 : Int) ≤ (j : Int) := Int.natCast_nonneg _
      have hk0 := xok.k0
      have hk1 := xok.k1
      clear hx
      by_cases h4 : x.kind % 10 = 4
      · have h4' : (x.kind % 10 == 4) = true := by simp [h4]
        have HT' : Hid (prepTo ops (j + 1) = (prepTo ops j).flush.2) := by show _ = _; rw [HT.out, DS.prep1, if_pos h4]
        clear h4
        go_wp2_with (fail)
        refine (law_flush D.out 0 rfl U.out.ok).mono ?_
        rintro e w2 ⟨rfl, M2, hd2, hs2⟩
        have R1 : Hid (∃ M', Disks w2 B M' [(g, prepTo ops (j + 1))] ∧ Step M w M' w2) := ⟨M2, by rw [HT'.out]; exact hd2, S.out.trans hs2⟩
        clear hd2 hs2 D S HT HT'
        go_wp2_with (fail)
        go_roundw
        case rel => exact ⟨j + 1, by omega, by omega, by go_num, R1⟩
        case measure => simp [intOf]; omega
      · have h4' : (x.kind % 10 == 4) = false := by simp [h4]
        have HT' : Hid (prepTo ops (j + 1) = ((prepTo ops j).write (at4 x.pos) (fill x.byte)).2) := by show _ = _; rw [HT.out, DS.prep1, if_neg h4]
        clear h4
        have ht := tmod4_bd x.pos
        have htl := ht.1
        have htu := ht.2
        clear ht
        have X4 : Hid ((IntKind.i64.wrap (x.pos.tmod 4 + 4)).tmod 4 = at4 x.pos) := by
          show _ = _
          rw [IntWalk.i64_in _ (by omega)]; rfl
        have Dd : Hid (Disks wr.drew B M' [(g, prepTo ops j)]) := D.out.drew
        go_wp2_with (fail)
        go_region_held3 (fun w' => w'.cell? ⟨b, off + j * 5 + 1, none⟩ = some (.int .i64 x.pos) ∧ w'.cell? ⟨b, off + j * 5 + 2, none⟩ = some (.int .u8 x.byte))
          (first
            | exact ⟨cp, cb⟩
            | (go_split_ands; first | exact ⟨hs3.cell (hs2.away hbl hbm) (by assumption), hs3.cell (hs2.away hbl hbm) (by assumption)⟩ | exact ⟨hs2.cell hbm (by assumption), hs2.cell hbm (by assumption)⟩))
          (first
            | (go_at_call 15; refine (law_filled Dd.out _).mono ?_; rintro e w2 ⟨bb, rfl, hd2, hs2, hbb, hbn⟩)
            | (go_at_call 14; rw [X4.out]; refine (law_write hd2 0 rfl U.out.ok (at4 x.pos) (at4_bd _).1 (at4_bd _).2 _ _ (fill_length _) (hbb.bytes64 hbn (fill_length _)) (by have := U.out.wr; omega)).mono ?_; rintro e w3 ⟨rfl, M3, hd3, hs3⟩))
        have R1 : Hid (∃ M', Disks w3 B M' [(g, prepTo ops (j + 1))] ∧ Step M w M' w3) := ⟨M3, by rw [HT'.out]; exact hd3, (S.out.drew.trans hs2).trans hs3⟩
        clear hd2 hs2 hbb hd3 hs3 D S HT HT' Dd X4
        go_wp2_with (fail)
        go_roundw
        case rel => exact ⟨j + 1, by omega, by omega, by go_num, R1⟩
        case measure => simp [intOf]; omega
    · have hp : Hid (prepTo ops j = prep ops) := by
        show _ = _
        unfold prepTo prep
        rcases Nat.lt_or_ge j ops.length with h | h
        · have : j = 20 := by omega
          rw [this]
        · rw [List.take_of_length_le h, List.take_of_length_le (by omega)]
      have R1 : Hid (∃ M', Disks wr B M' [(g, prep ops)] ∧ Step M w M' wr) := ⟨M', by rw [← hp.out]; exact D.out, S.out⟩
      clear hp D S HV OK D1 S1
      by_cases hl : j < ops.length
      · have h20 : ¬ j < 20 := fun h => hlt ⟨hl, h⟩
        clear hlt
        go_wp2_with (fail)
        go_ret
        exact ⟨g, rfl, R1.out⟩
      · clear hlt
        go_wp2_with (fail)
        go_ret
        exact ⟨g, rfl, R1.out⟩

end Go.Proofs.Ythnolhcknhhipaa
