/-
  The disk's Read.
  No condition.
-/
import Derived.Test.YthnolhcknhhipaaDkA
import Derived.Test.YthnolhcknhhipaaDkClone
import Derived.Test.YthnolhcknhhipaaDkPure
namespace Go.Proofs.Ythnolhcknhhipaa
set_option linter.unusedVariables false
set_option linter.unusedSimpArgs false
open Go.RowKit

theorem zero_pending : ∀ w, (zeroValue 66).run Try.prog w = .ok (.agg pzero.toArray) w := (zero_of_info (n := 65) (by kernel_rfl)).1
theorem size_pending : (Try.prog.info? 66).map (·.size) = some 65 := by kernel_rfl

set_option maxHeartbeats 400000 in
theorem read_out (w : World) (F : Nat → Prop) (g : Nat) (s : DS) (n : Nat) (x : Int) (h : DiskAt w F g s) (ok : s.Ok n) (hx : x < 0 ∨ (n : Int) ≤ x) :
    Calls Try.prog 16 #[.pointer (some ⟨g, 0, none⟩), .int .i64 x] w fun e w' => e = .returned (.tuple #[.slice none 0 0, .int .i64 1]) ∧ w = w' := by
  have hs := fun w' => sectors_any w' F g s n
  rcases hx with hx | hx
  · go_enter Try.func16, Try.ntmps16
    clear hs
    go_wp2_with (fail)
    go_ret2
    exact ⟨rfl, rfl⟩
  · by_cases h0 : x < 0
    · go_enter Try.func16, Try.ntmps16
      clear hs
      go_wp2_with (fail)
      go_ret2
      exact ⟨rfl, rfl⟩
    · have hs' := Lib.hid (sectors_any w F g s n h ok)
      clear hs
      clear ok h
      go_enter Try.func16, Try.ntmps16
      go_wp2_with (go_at_call 25; refine hs'.out.mono ?_; rintro e w' ⟨rfl, rfl⟩)
      go_ret2
      exact ⟨rfl, rfl⟩

set_option maxHeartbeats 400000 in
theorem read_down (w : World) (F : Nat → Prop) (g : Nat) (s : DS) (n : Nat) (k : Nat) (h : DiskAt w F g s) (ok : s.Ok n) (hk : k < n) (hd : s.down = true) :
    Calls Try.prog 16 #[.pointer (some ⟨g, 0, none⟩), .int .i64 k] w fun e w' => e = .returned (.tuple #[.slice none 0 0, .int .i64 340]) ∧ w = w' := by
  have hs' := Lib.hid (sectors_any w F g s n h ok)
  obtain ⟨gd, capd, W, K, h⟩ := h
  have hc := h.cell2
  rw [hd] at hc
  clear ok h hd
  go_enter Try.func16, Try.ntmps16
  go_wp2_with (go_at_call 25; refine hs'.out.mono ?_; rintro e w' ⟨rfl, rfl⟩)
  go_ret2
  exact ⟨rfl, rfl⟩

/-- Bytes in a block of their own. -/
def ByteBlock (w : World) (b : Nat) (xs : List Int) : Prop := w.heap[b]? = some (.cells (xs.map (Value.int .u8)).toArray 5 (0, 0))

set_option maxHeartbeats 400000 in
theorem read_any (w : World) (F : Nat → Prop) (g : Nat) (s : DS) (n : Nat) (k : Nat) (h : DiskAt w F g s) (ok : s.Ok n) (hk : k < n) (hd : s.down = false) :
    Calls Try.prog 16 #[.pointer (some ⟨g, 0, none⟩), .int .i64 k] w fun e w' => ∃ b, e = .returned (.tuple #[.slice (some ⟨b, 0, none⟩) 64 64, .int .i64 0]) ∧ ByteBlock w' b (s.read k) ∧ Below w.heap.size w w' ∧ w.heap.size ≤ b := by
  have hs' := Lib.hid (sectors_any w F g s n h ok)
  obtain ⟨gd, capd, W, K, h⟩ := h
  have hc := h.cell2
  rw [hd] at hc
  have hc0 := h.cell0
  rw [ok.dur] at hc0
  have hc1 := h.cell1
  obtain ⟨aW, cW, rfl, hW1, hW2, hW3, hW4⟩ := ownsRow_shape h.wr
  have hwl : s.wr.length ≤ 9223372036854775807 := by unfold maxLen at hW2; omega
  have hcap : 64 * n ≤ capd := by
    rcases h.dur.2 with ⟨h', _⟩ | ⟨g', cap', cur, h', _, hg, hn, hm, _⟩
    · cases h'
    · injection h' with _ h2; rw [ok.dur] at hn; omega
  have hn := ok.hi
  obtain ⟨i0, hi, hz0, hz1, hz2⟩ := info_parts infobyte
  have OK := Lib.hid ok
  have H := Lib.hid h
  have HW3 := Lib.hid hW3; clear hW3
  have HW4 := Lib.hid hW4; clear hW4
  clear ok h hd
  go_enter Try.func16, Try.ntmps16
  go_wp2_with (first
    | (go_at_call 25; refine hs'.out.mono ?_; rintro e w' ⟨rfl, rfl⟩)
    | (at_make; refine wpList_make_full _ rfl _ _ 26 rfl 0 5 i0 (.int .u8 0) 1 Try.underlying26 hi hz0 hz1 _ _ _ _ 64 rfl rfl (by omega) (by omega) (by rw [hz2]; omega) (by unfold maxLen; omega) (Nat.zero_le _) ?_))
  intro w1 hown hg
  have hblk : w1.heap[w.heap.size]? = some (.cells ((List.replicate 64 (0 : Int)).map (Value.int .u8)).toArray 5 (0, 0)) := by
    rw [ownsRow_full hown, toList_madeCells_one]; simp
  have hbel : Below w.heap.size w w1 := (Below.refl _ _).grown hg (Nat.le_refl _) (by simp)
  have D1 : DiskIn w1 F g s gd capd (.slice aW s.wr.length cW) K := H.out.below hbel
  have hsrc : ∀ j v, ((sect s.dur k).map (Value.int .u8))[j]? = some v → w1.cell? ((⟨gd, 64 * k, none⟩ : Addr).add j) = some v := by
    intro j v hv
    have hj : j < (sect s.dur k).length := by simpa using (List.getElem?_eq_some_iff.1 hv).1
    rw [sect_length OK.out.dur hk] at hj
    have := D1.dur.cells rfl (64 * k + j) v (by
      rw [← hv]; simp only [sect, List.getElem?_map, List.getElem?_take, List.getElem?_drop, if_pos hj])
    rw [Addr.add_lit] at this ⊢
    simpa using this
  clear hc hc0 hc1
  have hc0 := D1.cell0
  rw [OK.out.dur] at hc0
  have hc1 := D1.cell1
  have hsl := sect_length OK.out.dur hk
  obtain ⟨b, hb⟩ : ∃ b, w.heap.size = b := ⟨_, rfl⟩
  rw [hb] at hblk ⊢
  have D := Lib.hid D1; clear D1
  have S := Lib.hid hsrc; clear hsrc
  have SL := Lib.hid hsl; clear hsl
  have B := Lib.hid hbel; clear hbel
  have BK := Lib.hid hblk; clear hblk
  have BB := Lib.hid hb; clear hb
  clear hown hg
  go_wp2_with (first
    | (go_at_call 31; refine (sector_any _ g n capd gd k hc0 hn hcap hk).mono ?_; rintro e w' ⟨rfl, rfl⟩)
    | (with_reducible refine wpList_copy_to rfl (.tmp 22) (.tmp 25) _ _ rfl 5 Try.underlying26 (by kernel_rfl) b 0 64 64 rfl ⟨gd, 64 * k, none⟩ 64 64 rfl _ _ BK.out ((sect s.dur k).map (.int .u8)) (by simp [SL.out]) S.out (by simp [SL.out]) (ints_oneCell _ _) ?_))
  intro w2 BK2 G2 Z2
  have hbk2 : ByteBlock w2 b (readFold (sect s.dur k) (s.wr.take 0) k) := by
    have := BK2.out
    rw [splice_all _ _ (by simp [SL.out])] at this
    simpa [readFold, ByteBlock] using this
  have B2 : Hid (Below w.heap.size w w2) := B.out.grown G2.out B.out.size (by intro k hk; cases hk; exact Nat.le_of_eq BB.out)
  have D2 := H.out.below B2.out
  clear hc0 hc1
  have hc1 := D2.cell1
  have BK3 := Lib.hid hbk2
  clear hbk2 BK2 G2 Z2 D S BK B hcap hz0 hz1 hz2 hi hs' D2
  go_wp2_with (fail)
  go_loopw [32] (fun i wr => ∃ j : Nat, j ≤ s.wr.length ∧ i = .int .i64 j ∧ Hid (ByteBlock wr b (readFold (sect s.dur k) (s.wr.take j) k)) ∧ Hid (Below w.heap.size w wr)) (fun i _ => s.wr.length - (intOf i).toNat)
  case atStart => exact ⟨0, Nat.zero_le _, rfl, BK3, B2⟩
  case round =>
    obtain ⟨j, hj, rfl, RB, RW⟩ := hrel
    by_cases hlt : j < s.wr.length
    · obtain ⟨gw, rfl, hcw⟩ : ∃ gw, aW = some ⟨gw, 0, none⟩ ∧ ∀ (i : Nat) (u : Value), (wcells s.wr)[i]? = some u → w.cell? ((⟨gw, 0, none⟩ : Addr).add i) = some u := by
        rcases aW with _ | ⟨gw, o, sp⟩
        · have := (HW3.out rfl).1; omega
        · obtain ⟨h1, h2, _, h4⟩ := HW4.out _ rfl
          simp only at h1 h2; subst h1; subst h2
          exact ⟨gw, rfl, h4⟩
      have HC := Lib.hid hcw; clear hcw
      obtain ⟨p, hp⟩ : ∃ p, s.wr[j] = p := ⟨_, rfl⟩
      have hpl : p.2.length = 64 := (OK.out.wr p (hp ▸ List.getElem_mem hlt)).2.2
      have hR : wr.rangeAt gw (j * 65) (wcell p) := by
        intro i v hv
        have h1 := HC.out (65 * j + i) v (wcells_at (fun q hq => (OK.out.wr q hq).2.2) j hlt i v (by rw [hp]; exact hv))
        rw [Addr.add_lit] at h1
        have := RW.out.cell (p := ⟨gw, j * 65 + i, none⟩) (World.block_lt_of_cell? w ⟨gw, 0 + (65 * j + i), none⟩ h1)
        rw [this, ← h1]; congr 2; omega
      have HR := Lib.hid hR; clear hR
      have hs : (Try.prog.info? 66).map (·.size) = some (wcell p).length := by rw [wcell_length hpl]; exact size_pending
      have HS := Lib.hid hs; clear hs
      have hw0 : (wcell p)[0]? = some (.int .i64 p.1) := rfl
      have hz : wr.heap.size ≠ b := by have := RB.out; unfold ByteBlock at this; rw [Array.getElem?_eq_some_iff] at this; have := this.1; omega
      have hbs : b < wr.heap.size := by have := RB.out; unfold ByteBlock at this; rw [Array.getElem?_eq_some_iff] at this; exact this.1
      have HL : Hid (p.2.length = 64) := hpl
      have HF : Hid ((readFold (sect s.dur k) (s.wr.take j) k).length = 64) := readFold_length SL.out _ (fun q hq => (OK.out.wr q (List.mem_of_mem_take hq)).2.2) _
      have HT : Hid (readFold (sect s.dur k) (s.wr.take (j + 1)) k = if p.1 = (k : Int) then p.2 else readFold (sect s.dur k) (s.wr.take j) k) := by
        show _ = _
        rw [take_snoc' _ _ hlt, hp, readFold_snoc]
      clear hpl hp
      have RB' : Hid ((wr.alloc (.cells (wcell p).toArray 66)).heap[b]? = some (.cells ((readFold (sect s.dur k) (s.wr.take j) k).map (Value.int .u8)).toArray 5 (0, 0))) := by
        show _ = _
        rw [Below.heap_alloc _ _ _ hbs]; exact RB.out
      have SD : Hid (∀ i v, (p.2.map (Value.int .u8))[i]? = some v → (wr.alloc (.cells (wcell p).toArray 66)).cell? ((⟨wr.heap.size, 1, none⟩ : Addr).add i) = some v) := by
        intro i v hv
        rw [Addr.add_lit, World.cell?_alloc_at _ _ _ _ rfl]
        simpa using wcell_data p i v hv
      by_cases he : (p.1 == (k : Int)) = true
      · go_wp2_with (first
          | (with_reducible refine wpList_load_mid rfl 66 (.tmp 34) rfl gw (j * 65) rfl (wcell p) _ HR.out Try.underlying66 rfl HS.out ?_)
          | (with_reducible refine wpList_alloc_z rfl 66 rfl pzero.toArray zero_pending ?_)
          | (with_reducible refine wpList_store_last rfl 66 (.tmp 8) (.tmp 35) rfl pzero.toArray (wcell p).toArray rfl rfl (by simpa using HS.out) (by simp [wcell_length HL.out, pzero_length]) (by simpa using wcell_one p) ?_)
          | (with_reducible refine wpList_copy_to rfl (.tmp 40) (.tmp 42) _ _ rfl 5 Try.underlying26 (by kernel_rfl) b 0 64 64 rfl ⟨wr.heap.size, 1, none⟩ 64 64 rfl _ _ RB'.out (p.2.map (.int .u8)) (by simp [HL.out]) SD.out (by simp [HL.out, HF.out]) (ints_oneCell _ _) ?_))
        intro w3 BK4 G4 Z4
        have R1 : Hid (ByteBlock w3 b (readFold (sect s.dur k) (s.wr.take (j + 1)) k)) := by
          show _ = _
          rw [HT.out, if_pos (by simpa using he), BK4.out, splice_all _ _ (by simp [HL.out, HF.out])]
        have R2 : Hid (Below w.heap.size w w3) := (RW.out.alloc RW.out.size _).grown G4.out (by have := RW.out.size; simp; omega) (by intro i hi; cases hi; exact Nat.le_of_eq BB.out)
        clear BK4 G4 Z4 SD RB' HR HS
        go_wp2
        go_roundw
        case rel => exact ⟨j + 1, by omega, by go_num, R1, R2⟩
        case measure => simp [intOf]; omega
      · have he : (p.1 == (k : Int)) = false := by simpa using he
        go_wp2_with (first
          | (with_reducible refine wpList_load_mid rfl 66 (.tmp 34) rfl gw (j * 65) rfl (wcell p) _ HR.out Try.underlying66 rfl HS.out ?_)
          | (with_reducible refine wpList_alloc_z rfl 66 rfl pzero.toArray zero_pending ?_)
          | (with_reducible refine wpList_store_last rfl 66 (.tmp 8) (.tmp 35) rfl pzero.toArray (wcell p).toArray rfl rfl (by simpa using HS.out) (by simp [wcell_length HL.out, pzero_length]) (by simpa using wcell_one p) ?_))
        have R1 : Hid (ByteBlock (wr.alloc (.cells (wcell p).toArray 66)) b (readFold (sect s.dur k) (s.wr.take (j + 1)) k)) := by
          show _ = _
          rw [HT.out, if_neg (by simpa using he)]; exact RB'.out
        have R2 : Hid (Below w.heap.size w (wr.alloc (.cells (wcell p).toArray 66))) := RW.out.alloc RW.out.size _
        clear SD RB' HR HS
        go_roundw
        case rel => exact ⟨j + 1, by omega, by go_num, R1, R2⟩
        case measure => simp [intOf]; omega
    · obtain rfl : j = s.wr.length := by omega
      rw [List.take_length] at RB
      clear HW3 HW4 hc1
      go_wp2
      go_ret2
      exact ⟨b, rfl, RB.out, RW.out, Nat.le_of_eq BB.out⟩

end Go.Proofs.Ythnolhcknhhipaa
