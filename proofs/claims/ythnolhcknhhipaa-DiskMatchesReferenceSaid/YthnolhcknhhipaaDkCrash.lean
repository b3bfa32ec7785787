/-
  The disk's Crash and Flush, and its fuse.
  No condition.
-/
import Derived.Test.YthnolhcknhhipaaDkRead
import Derived.StillTailTactics
namespace Go.Proofs.Ythnolhcknhhipaa
set_option linter.unusedVariables false
set_option linter.unusedSimpArgs false
open Go.RowKit

set_option maxHeartbeats 400000 in
theorem crash_down (w : World) (F : Nat → Prop) (g : Nat) (s : DS) (v : Value) (h : DiskAt w F g s) (hd : s.down = true) :
    Calls Try.prog 19 #[.pointer (some ⟨g, 0, none⟩), v] w fun e w' => e = .returned (.tuple #[]) ∧ w = w' := by
  obtain ⟨gd, capd, W, K, h⟩ := h
  have hc := h.cell2
  rw [hd] at hc
  clear h hd
  go_enter Try.func19, Try.ntmps19
  go_wp2
  go_returns
  exact ⟨rfl, rfl⟩

/-- The kept numbers, as a call of Crash reads them. -/
def KeptIn (w : World) (gd : Nat) (ao : Option Addr) (ks : List Int) : Prop :=
  ks = [] ∨ ∃ b o, ao = some ⟨b, o, none⟩ ∧ b < w.heap.size ∧ b ≠ gd ∧ ∀ (j : Nat) u, (ks.map (Value.int .i64))[j]? = some u → w.cell? ⟨b, o + j, none⟩ = some u

theorem cut_cases (x : Int) : (x < 0 ∧ cut x = 0) ∨ (∃ c : Nat, x = c ∧ c ≤ 64 ∧ cut x = c) ∨ (64 < x ∧ cut x = 64) := by
  unfold cut
  rcases Int.lt_or_le x 0 with h | h
  · exact .inl ⟨h, by omega⟩
  · rcases Int.lt_or_le 64 x with h' | h'
    · exact .inr (.inr ⟨h', by omega⟩)
    · exact .inr (.inl ⟨x.toNat, by omega, by omega, by omega⟩)

set_option maxHeartbeats 2000000 in
theorem crash_up (w : World) (F : Nat → Prop) (g : Nat) (s : DS) (n gd capd : Nat) (W K : Value) (h : DiskIn w F g s gd capd W K) (ok : s.Ok n) (hd : s.down = false) (ao : Option Addr) (cap : Nat) (ks : List Int)
    (hk : KeptIn w gd ao ks) (hcap : ks.length ≤ cap) (hlen : ks.length ≤ maxLen) :
    Calls Try.prog 19 #[.pointer (some ⟨g, 0, none⟩), .slice ao ks.length cap] w fun e w' => e = .returned (.tuple #[]) ∧ DiskAt w' F g (s.crash ks) ∧ Step F w F w' := by
  have hc := h.cell2
  rw [hd] at hc
  have hc1 := h.cell1
  obtain ⟨aW, cW, rfl, hW1, hW2, hW3, hW4⟩ := ownsRow_shape h.wr
  have hwl : s.wr.length ≤ 9223372036854775807 := by unfold maxLen at hW2; omega
  have hkl : ks.length ≤ 9223372036854775807 := by unfold maxLen at hlen; omega
  obtain ⟨R, hR1, hR2, hR3⟩ := h.durRow
  have hcm : capd ≤ maxLen := by
    rcases h.dur.2 with ⟨h', _⟩ | ⟨g', cap', cur, h', _, _, _, hm, _⟩
    · cases h'
    · injection h' with _ _ h3; rw [h3]; exact hm
  have OK := Lib.hid ok
  have H := Lib.hid h
  have HW3 := Lib.hid hW3; clear hW3
  have HW4 := Lib.hid hW4; clear hW4
  have HR1 := Lib.hid hR1; clear hR1
  have HR2 := Lib.hid hR2; clear hR2
  have HK : Hid (KeptIn w gd ao ks) := hk; clear hk
  have HD := Lib.hid hd
  clear ok h hd
  go_enter Try.func19, Try.ntmps19
  go_wp2_with (fail)
  go_loopw [16] (fun i wr => ∃ j : Nat, j ≤ s.wr.length ∧ i = .int .i64 j ∧ Hid (wr.heap[gd]? = some (.cells ((crashFold s.dur (s.wr.take j) ks).map (Value.int .u8) ++ R).toArray 5 (0, 0))) ∧ Hid (w.grownBy wr (some gd))) (fun i _ => s.wr.length - (intOf i).toNat)
  case atStart => exact ⟨0, Nat.zero_le _, rfl, by show _ = _; rw [List.take_zero]; simpa [crashFold] using HR1.out, World.grownBy.refl _ _⟩
  case round =>
    obtain ⟨j, hj, rfl, RB, RW⟩ := hrel
    by_cases hlt : j < s.wr.length
    · obtain ⟨gw, rfl, hgw, hcw⟩ : ∃ gw, aW = some ⟨gw, 0, none⟩ ∧ (Value.slice aW s.wr.length cW).ownBlock = some gw ∧ ∀ (i : Nat) (u : Value), (wcells s.wr)[i]? = some u → w.cell? ((⟨gw, 0, none⟩ : Addr).add i) = some u := by
        rcases aW with _ | ⟨gw, o, sp⟩
        · have := (HW3.out rfl).1; omega
        · obtain ⟨h1, h2, h3, h4⟩ := HW4.out _ rfl
          simp only at h1 h2; subst h1; subst h2
          exact ⟨gw, rfl, h3, h4⟩
      have HC := Lib.hid hcw; clear hcw
      have hgwd : gw ≠ gd := (H.out.fw gw hgw).2.2
      have hgdl := H.out.lt gd H.out.fd
      obtain ⟨p, hp⟩ : ∃ p, s.wr[j] = p := ⟨_, rfl⟩
      have hpok := OK.out.wr p (hp ▸ List.getElem_mem hlt)
      have hR : wr.rangeAt gw (j * 65) (wcell p) := by
        intro i v hv
        have h1 := HC.out (65 * j + i) v (wcells_at (fun q hq => (OK.out.wr q hq).2.2) j hlt i v (by rw [hp]; exact hv))
        rw [Addr.add_lit] at h1
        have h2 := World.cell?_of_block (RW.out.block gw (World.block_lt_of_cell? w ⟨gw, 0 + (65 * j + i), none⟩ h1) (by simpa using hgwd)) (a := ⟨gw, j * 65 + i, none⟩)
        rw [h2, ← h1]; congr 2; omega
      have HR := Lib.hid hR; clear hR
      have hs : (Try.prog.info? 66).map (·.size) = some (wcell p).length := by rw [wcell_length hpok.2.2]; exact size_pending
      have HS := Lib.hid hs; clear hs
      have hw0 : (wcell p)[0]? = some (.int .i64 p.1) := rfl
      obtain ⟨pk, hpk⟩ : ∃ pk : Nat, p.1 = pk := ⟨p.1.toNat, by omega⟩
      have HPK := Lib.hid hpk
      rw [hpk] at hw0
      clear hpk
      have hgdr : gd < wr.heap.size := Nat.lt_of_lt_of_le hgdl RW.out.size
      have hpkn : pk < n := by have := HPK.out; omega
      have hdl : Hid ((crashFold s.dur (s.wr.take j) ks).length = 64 * n) := crashFold_length _ _ _ _ OK.out.dur (fun q hq => OK.out.wr q (List.mem_of_mem_take hq))
      have RB' : Hid ((wr.alloc (.cells (wcell p).toArray 66)).drew.heap[gd]? = some (.cells ((crashFold s.dur (s.wr.take j) ks).map (Value.int .u8) ++ R).toArray 5 (0, 0))) := by
        show (wr.alloc _).heap[gd]? = _
        rw [Below.heap_alloc _ _ _ hgdr]; exact RB.out
      have RW' : Hid (w.grownBy (wr.alloc (.cells (wcell p).toArray 66)) (some gd)) := grown_alloc RW.out _
      have HL : Hid (p.2.length = 64) := hpok.2.2
      have HT : Hid (crashFold s.dur (s.wr.take (j + 1)) ks = if h : j < ks.length then splice (crashFold s.dur (s.wr.take j) ks) (64 * p.1.toNat) (p.2.take (cut ks[j])) else crashFold s.dur (s.wr.take j) ks) := by
        have e : (s.wr.take j).length = j := by simp; omega
        show _ = _
        rw [take_snoc' _ _ hlt, hp, crashFold_snoc]
        simp only [e]
      have hn := OK.out.hi
      have hc0 : wr.cell? ⟨g, 0, none⟩ = some (.slice (some ⟨gd, 0, none⟩) (64 * n) capd) := by
        rw [← OK.out.dur, ← H.out.cell0]
        exact World.cell?_of_block (RW.out.block g (H.out.lt g H.out.fg) (by simpa using H.out.ne))
      have hgr : g < wr.heap.size := Nat.lt_of_lt_of_le (H.out.lt g H.out.fg) RW.out.size
      have hcap0 : 64 * n ≤ capd := by have := OK.out.dur; omega
      have HPL : Hid (p.2.length = 64 ∧ p.1 = (pk : Int)) := ⟨HL.out, HPK.out⟩
      clear hp hpok hc hc1 HW3 HW4
      by_cases hk : j < ks.length
      · obtain ⟨b, o, rfl, hbl, hbd, hkc⟩ : ∃ b o, ao = some ⟨b, o, none⟩ ∧ b < w.heap.size ∧ b ≠ gd ∧ ∀ (j : Nat) u, (ks.map (Value.int .i64))[j]? = some u → w.cell? ⟨b, o + j, none⟩ = some u := by
          rcases HK.out with h | h
          · subst h; simp at hk
          · exact h
        obtain ⟨x, hx⟩ : ∃ x, ks[j] = x := ⟨_, rfl⟩
        have hkx : wr.cell? ⟨b, o + j, none⟩ = some (.int .i64 x) := by
          rw [← hkc j (.int .i64 x) (by simp [hk, hx])]
          exact World.cell?_of_block (RW.out.block b hbl (by simpa using hbd))
        have hbr : b < wr.heap.size := Nat.lt_of_lt_of_le hbl RW.out.size
        have HX := Lib.hid hx; clear hx
        clear hkc
        rcases cut_cases x with ⟨hx0, hc⟩ | ⟨c, rfl, hc64, hc⟩ | ⟨hx0, hc⟩
        · have HC := Lib.hid hc; clear hc
          go_wp2_with (first
            | (with_reducible refine wpList_load_mid rfl 66 (.tmp 19) rfl gw (j * 65) rfl (wcell p) _ HR.out Try.underlying66 rfl HS.out ?_)
            | (with_reducible refine wpList_alloc_z rfl 66 rfl pzero.toArray zero_pending ?_)
            | (with_reducible refine wpList_store_last rfl 66 (.tmp 5) (.tmp 20) rfl pzero.toArray (wcell p).toArray rfl rfl (by simpa using HS.out) (by simp [wcell_length HL.out, pzero_length]) (by simpa using wcell_one p) ?_))
          refine wp_region_tail 7 (by kernel_rfl) (by kernel_rfl) ?_
          simp only [List.take_succ_cons, List.take_zero, List.drop_succ_cons, List.drop_zero]
          repeat still_step
          still_call (still_enter (sector_any _ g n capd gd pk (by exact cell_alloc hc0 _) hn hcap0 hpkn))
          repeat still_step
          refine wpStill_nil ?_
          have SD : Hid (∀ i v, ((p.2.take 0).map (Value.int .u8))[i]? = some v → (wr.alloc (.cells (wcell p).toArray 66)).drew.cell? ((⟨wr.heap.size, 1, none⟩ : Addr).add i) = some v) := by
            intro i v hv
            have hv' : (p.2.map (Value.int .u8))[i]? = some v := by
              rw [List.map_take, List.getElem?_take] at hv
              split at hv
              · exact hv
              · cases hv
            rw [Addr.add_lit]
            show (wr.alloc _).cell? _ = _
            rw [World.cell?_alloc_at _ _ _ _ rfl]
            simpa using wcell_data p i v hv'
          go_wp2_with (with_reducible refine wpList_copy_to rfl (.tmp 34) (.tmp 37) _ _ rfl 5 Try.underlying26 (by kernel_rfl) gd (64 * pk) 64 64 rfl ⟨wr.heap.size, 1, none⟩ 0 64 rfl _ _ RB'.out ((p.2.take 0).map (.int .u8)) (by simp [HL.out, Nat.min_def] <;> omega) SD.out (by simp [hdl.out]; omega) (ints_oneCell _ _) ?_)
          intro w3 BK3 G3 Z3
          have R1 : Hid (w3.heap[gd]? = some (.cells ((crashFold s.dur (s.wr.take (j + 1)) ks).map (Value.int .u8) ++ R).toArray 5 (0, 0))) := by
            show _ = _
            rw [BK3.out, splice_append _ _ _ _ (by simp [hdl.out]; omega), HT.out, dif_pos hk, HX.out, HC.out, HPL.out.2, Int.toNat_natCast, map_splice]
            try simp only [List.map_take, List.take_zero, List.map_nil]
          have R2 : Hid (w.grownBy w3 (some gd)) := grown_trans (grown_drew RW'.out) G3.out
          clear BK3 G3 Z3 SD RB' HR HS
          go_wp2
          go_roundw
          case rel => exact ⟨j + 1, by omega, by go_num, R1, R2⟩
          case measure => simp [intOf]; omega
        · have HC := Lib.hid hc; clear hc
          have hc64' : (c : Int) ≤ 64 := by omega
          have h0c : (0 : Int) ≤ (c : Int) := Int.natCast_nonneg c
          go_wp2_with (first
            | (with_reducible refine wpList_load_mid rfl 66 (.tmp 19) rfl gw (j * 65) rfl (wcell p) _ HR.out Try.underlying66 rfl HS.out ?_)
            | (with_reducible refine wpList_alloc_z rfl 66 rfl pzero.toArray zero_pending ?_)
            | (with_reducible refine wpList_store_last rfl 66 (.tmp 5) (.tmp 20) rfl pzero.toArray (wcell p).toArray rfl rfl (by simpa using HS.out) (by simp [wcell_length HL.out, pzero_length]) (by simpa using wcell_one p) ?_))
          refine wp_region_tail 7 (by kernel_rfl) (by kernel_rfl) ?_
          simp only [List.take_succ_cons, List.take_zero, List.drop_succ_cons, List.drop_zero]
          repeat still_step
          still_call (still_enter (sector_any _ g n capd gd pk (by exact cell_alloc hc0 _) hn hcap0 hpkn))
          repeat still_step
          refine wpStill_nil ?_
          have SD : Hid (∀ i v, ((p.2.take c).map (Value.int .u8))[i]? = some v → (wr.alloc (.cells (wcell p).toArray 66)).drew.cell? ((⟨wr.heap.size, 1, none⟩ : Addr).add i) = some v) := by
            intro i v hv
            have hv' : (p.2.map (Value.int .u8))[i]? = some v := by
              rw [List.map_take, List.getElem?_take] at hv
              split at hv
              · exact hv
              · cases hv
            rw [Addr.add_lit]
            show (wr.alloc _).cell? _ = _
            rw [World.cell?_alloc_at _ _ _ _ rfl]
            simpa using wcell_data p i v hv'
          go_wp2_with (with_reducible refine wpList_copy_to rfl (.tmp 34) (.tmp 37) _ _ rfl 5 Try.underlying26 (by kernel_rfl) gd (64 * pk) 64 64 rfl ⟨wr.heap.size, 1, none⟩ c 64 rfl _ _ RB'.out ((p.2.take c).map (.int .u8)) (by simp [HL.out, Nat.min_def] <;> omega) SD.out (by simp [hdl.out]; omega) (ints_oneCell _ _) ?_)
          intro w3 BK3 G3 Z3
          have R1 : Hid (w3.heap[gd]? = some (.cells ((crashFold s.dur (s.wr.take (j + 1)) ks).map (Value.int .u8) ++ R).toArray 5 (0, 0))) := by
            show _ = _
            rw [BK3.out, splice_append _ _ _ _ (by simp [hdl.out]; omega), HT.out, dif_pos hk, HX.out, HC.out, HPL.out.2, Int.toNat_natCast, map_splice]
            try simp only [List.map_take, List.take_zero, List.map_nil]
          have R2 : Hid (w.grownBy w3 (some gd)) := grown_trans (grown_drew RW'.out) G3.out
          clear BK3 G3 Z3 SD RB' HR HS
          go_wp2
          go_roundw
          case rel => exact ⟨j + 1, by omega, by go_num, R1, R2⟩
          case measure => simp [intOf]; omega
        · have HC := Lib.hid hc; clear hc
          go_wp2_with (first
            | (with_reducible refine wpList_load_mid rfl 66 (.tmp 19) rfl gw (j * 65) rfl (wcell p) _ HR.out Try.underlying66 rfl HS.out ?_)
            | (with_reducible refine wpList_alloc_z rfl 66 rfl pzero.toArray zero_pending ?_)
            | (with_reducible refine wpList_store_last rfl 66 (.tmp 5) (.tmp 20) rfl pzero.toArray (wcell p).toArray rfl rfl (by simpa using HS.out) (by simp [wcell_length HL.out, pzero_length]) (by simpa using wcell_one p) ?_))
          refine wp_region_tail 7 (by kernel_rfl) (by kernel_rfl) ?_
          simp only [List.take_succ_cons, List.take_zero, List.drop_succ_cons, List.drop_zero]
          repeat still_step
          still_call (still_enter (sector_any _ g n capd gd pk (by exact cell_alloc hc0 _) hn hcap0 hpkn))
          repeat still_step
          refine wpStill_nil ?_
          have SD : Hid (∀ i v, ((p.2.take 64).map (Value.int .u8))[i]? = some v → (wr.alloc (.cells (wcell p).toArray 66)).drew.cell? ((⟨wr.heap.size, 1, none⟩ : Addr).add i) = some v) := by
            intro i v hv
            have hv' : (p.2.map (Value.int .u8))[i]? = some v := by
              rw [List.map_take, List.getElem?_take] at hv
              split at hv
              · exact hv
              · cases hv
            rw [Addr.add_lit]
            show (wr.alloc _).cell? _ = _
            rw [World.cell?_alloc_at _ _ _ _ rfl]
            simpa using wcell_data p i v hv'
          go_wp2_with (with_reducible refine wpList_copy_to rfl (.tmp 34) (.tmp 37) _ _ rfl 5 Try.underlying26 (by kernel_rfl) gd (64 * pk) 64 64 rfl ⟨wr.heap.size, 1, none⟩ 64 64 rfl _ _ RB'.out ((p.2.take 64).map (.int .u8)) (by simp [HL.out, Nat.min_def] <;> omega) SD.out (by simp [hdl.out]; omega) (ints_oneCell _ _) ?_)
          intro w3 BK3 G3 Z3
          have R1 : Hid (w3.heap[gd]? = some (.cells ((crashFold s.dur (s.wr.take (j + 1)) ks).map (Value.int .u8) ++ R).toArray 5 (0, 0))) := by
            show _ = _
            rw [BK3.out, splice_append _ _ _ _ (by simp [hdl.out]; omega), HT.out, dif_pos hk, HX.out, HC.out, HPL.out.2, Int.toNat_natCast, map_splice]
            try simp only [List.map_take, List.take_zero, List.map_nil]
          have R2 : Hid (w.grownBy w3 (some gd)) := grown_trans (grown_drew RW'.out) G3.out
          clear BK3 G3 Z3 SD RB' HR HS
          go_wp2
          go_roundw
          case rel => exact ⟨j + 1, by omega, by go_num, R1, R2⟩
          case measure => simp [intOf]; omega
      · go_wp2_with (first
          | (with_reducible refine wpList_load_mid rfl 66 (.tmp 19) rfl gw (j * 65) rfl (wcell p) _ HR.out Try.underlying66 rfl HS.out ?_)
          | (with_reducible refine wpList_alloc_z rfl 66 rfl pzero.toArray zero_pending ?_)
          | (with_reducible refine wpList_store_last rfl 66 (.tmp 5) (.tmp 20) rfl pzero.toArray (wcell p).toArray rfl rfl (by simpa using HS.out) (by simp [wcell_length HL.out, pzero_length]) (by simpa using wcell_one p) ?_))
        have R1 : Hid ((wr.alloc (.cells (wcell p).toArray 66)).heap[gd]? = some (.cells ((crashFold s.dur (s.wr.take (j + 1)) ks).map (Value.int .u8) ++ R).toArray 5 (0, 0))) := by
          show _ = _
          rw [HT.out, dif_neg hk]; exact RB'.out
        clear RB' HR HS
        go_roundw
        case rel => exact ⟨j + 1, by omega, by go_num, R1, RW'⟩
        case measure => simp [intOf]; omega
    · obtain rfl : j = s.wr.length := by omega
      rw [List.take_length] at RB
      clear HW3 HW4 hc1 hc
      have D := H.out.setDur RW.out (crashFold s.dur s.wr ks) R (by rw [crashFold_length _ _ _ _ OK.out.dur OK.out.wr, OK.out.dur]) HR2.out hcm RB.out
      have f1 := D.froz 1
      have f2 := D.froz 2
      have f3 := D.froz 3
      have f4 := D.froz 4
      have c1 := D.cell1
      have c2 := D.cell2
      have c3 := D.cell3
      have c4 := D.cell4
      have D' := Lib.hid D; clear D
      go_wp2
      go_end0
      have d1 := D'.out.setOwn 1 (.slice none 0 0) { s with dur := crashFold s.dur s.wr ks, wr := [] } (.slice none 0 0) K rfl rfl (.inr ⟨rfl, rfl⟩) (.inl ⟨rfl, rfl⟩)
      have d2 := d1.setOwn 4 (.slice none 0 0) { s with dur := crashFold s.dur s.wr ks, wr := [], kept := [] } (.slice none 0 0) (.slice none 0 0) rfl rfl (.inl ⟨rfl, rfl⟩) (.inr ⟨rfl, rfl⟩)
      have d3 := d2.setOwn 3 (.int .i64 0) { s with dur := crashFold s.dur s.wr ks, wr := [], kept := [], fuse := 0 } (.slice none 0 0) (.slice none 0 0) rfl rfl (.inl ⟨rfl, rfl⟩) (.inl ⟨rfl, rfl⟩)
      have d4 := d3.setOwn 2 (.bool true) { dur := crashFold s.dur s.wr ks, wr := [], kept := [], fuse := 0, down := true } (.slice none 0 0) (.slice none 0 0) rfl rfl (.inl ⟨rfl, rfl⟩) (.inl ⟨rfl, rfl⟩)
      refine ⟨rfl, ⟨gd, capd, .slice none 0 0, .slice none 0 0, ?_⟩, ?_⟩
      · unfold DS.crash; rw [if_neg (by rw [HD.out]; simp)]; exact d4
      · exact ((((Step.of_grown RW.out (by intro k hk; cases hk; exact H.out.fd)).setCell (.inl H.out.fg) _).setCell (.inl H.out.fg) _).setCell (.inl H.out.fg) _).setCell (.inl H.out.fg) _

/-- Crash, whatever the disk's state. -/
theorem crash_any (w : World) (F : Nat → Prop) (g : Nat) (s : DS) (n : Nat) (h : DiskAt w F g s) (ok : s.Ok n) (ao : Option Addr) (cap : Nat) (ks : List Int)
    (hk : ks = [] ∨ ∃ b o, ao = some ⟨b, o, none⟩ ∧ b < w.heap.size ∧ ¬ F b ∧ ∀ (j : Nat) u, (ks.map (Value.int .i64))[j]? = some u → w.cell? ⟨b, o + j, none⟩ = some u) (hcap : ks.length ≤ cap) (hlen : ks.length ≤ maxLen) :
    Calls Try.prog 19 #[.pointer (some ⟨g, 0, none⟩), .slice ao ks.length cap] w fun e w' => e = .returned (.tuple #[]) ∧ DiskAt w' F g (s.crash ks) ∧ Step F w F w' := by
  cases hd : s.down with
  | true => exact (crash_down w F g s _ h hd).mono fun e w' ⟨he, hw⟩ => ⟨he, by subst hw; unfold DS.crash; rw [if_pos hd]; exact h, by subst hw; exact Step.refl _ _⟩
  | false =>
    obtain ⟨gd, capd, W, K, h⟩ := h
    exact crash_up w F g s n gd capd W K h ok hd ao cap ks (hk.imp id fun ⟨b, o, h1, h2, h3, h4⟩ => ⟨b, o, h1, h2, fun e => h3 (e ▸ h.fd), h4⟩) hcap hlen

end Go.Proofs.Ythnolhcknhhipaa
