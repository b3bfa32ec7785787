/-
  The disk's fuse (ready), Flush and Write.
  Condition: fewer than 2^30 writes are pending.
-/
import Derived.Test.YthnolhcknhhipaaDkCrash
namespace Go.Proofs.Ythnolhcknhhipaa
set_option linter.unusedVariables false
set_option linter.unusedSimpArgs false
open Go.RowKit

set_option maxHeartbeats 400000 in
theorem ready_any (w : World) (F : Nat → Prop) (g : Nat) (s : DS) (n : Nat) (h : DiskAt w F g s) (ok : s.Ok n) :
    Calls Try.prog 30 #[.pointer (some ⟨g, 0, none⟩)] w fun e w' => e = .returned (.int .i64 s.ready.1) ∧ DiskAt w' F g s.ready.2 ∧ Step F w F w' := by
  obtain ⟨gd, capd, W, K, h⟩ := h
  have h2 := h.cell2
  have h3 := h.cell3
  have h4 := h.cell4
  obtain ⟨aK, cK, rfl, hK1, hK2, hK3, hK4⟩ := ownsRow_shape h.kept
  have b0 := ok.fuse0
  have b1 := ok.fuse1
  have OK := Lib.hid ok; clear ok
  have H := Lib.hid h; clear h
  have HK3 := Lib.hid hK3; clear hK3
  have HK4 := Lib.hid hK4; clear hK4
  by_cases hd : s.down = true
  · have R : Hid (s.ready = (340, s)) := by show _ = _; unfold DS.ready; rw [if_pos hd]
    rw [hd] at h2
    clear hd
    go_enter Try.func30, Try.ntmps30
    go_wp2_with (fail)
    go_ret
    rw [R.out]
    exact ⟨rfl, ⟨gd, capd, W, _, H.out⟩, Step.refl _ _⟩
  · have hd' : s.down = false := by simpa using hd
    by_cases hf : s.fuse = 1
    · have R : Hid (s.ready = (340, s.crash s.kept)) := by show _ = _; unfold DS.ready; rw [if_neg hd, if_pos hf]
      rw [hd'] at h2
      rw [hf] at h3
      clear hd hf b0 b1
      have HD := Lib.hid hd'; clear hd'
      go_enter Try.func30, Try.ntmps30
      go_wp2_with (fail)
      have hk : KeptIn w gd aK s.kept := by
        cases hks : s.kept with
        | nil => exact .inl rfl
        | cons x l =>
          refine .inr ?_
          rw [← hks]
          rcases aK with _ | ad
          · have := (HK3.out rfl).1; rw [hks] at this; simp at this
          · obtain ⟨b, o, sp⟩ := ad
            obtain ⟨e1, e2, e3, e4⟩ := HK4.out _ rfl
            simp only at e1 e2; subst e1; subst e2
            have hb := H.out.fk b e3
            exact ⟨b, 0, rfl, H.out.lt b hb.1, hb.2.2.1, fun j u hu => by have := e4 j u hu; rwa [Addr.add_lit] at this⟩
      refine (crash_up w F g s n gd capd W _ H.out OK.out HD.out aK cK s.kept hk hK1 (Nat.le_trans hK1 hK2)).mono ?_
      rintro e w1 ⟨rfl, hdisk, hstep⟩
      have D := Lib.hid hdisk; clear hdisk
      have S := Lib.hid hstep; clear hstep
      go_wp2_with (fail)
      go_ret
      rw [R.out]
      exact ⟨rfl, D.out, S.out⟩
    · have R : Hid (s.ready = (0, { s with fuse := max (s.fuse - 1) 0 })) := by show _ = _; unfold DS.ready; rw [if_neg hd, if_neg hf]
      rw [hd'] at h2
      have hf' : (s.fuse == 1) = false := by simpa using hf
      have fz := H.out.froz 3
      clear hd hf
      have HD := Lib.hid hd'; clear hd'
      go_enter Try.func30, Try.ntmps30
      go_wp2_with (fail)
      all_goals go_ret
      all_goals rw [R.out]
      all_goals
        refine ⟨rfl, ⟨gd, capd, W, _, H.out.setOwn 3 _ _ W _ ?_ rfl (.inl ⟨rfl, rfl⟩) (.inl ⟨rfl, rfl⟩)⟩, (Step.refl _ _).setCell (.inl H.out.fg) _⟩
        simp [dcells]
        omega

theorem DS.ready_zero {s : DS} (h : s.ready.1 = 0) : s.ready.2 = { s with fuse := max (s.fuse - 1) 0 } := by
  unfold DS.ready at h ⊢
  split
  · next hd => rw [if_pos hd] at h; simp at h
  · split
    · next hd hf => rw [if_neg hd, if_pos hf] at h; simp at h
    · rfl

theorem DS.ready_code (s : DS) : s.ready.1 = 0 ∨ s.ready.1 = 340 := by
  unfold DS.ready
  split
  · exact .inr rfl
  · split
    · exact .inr rfl
    · exact .inl rfl

set_option maxHeartbeats 2000000 in
theorem flush_any (w : World) (F : Nat → Prop) (g : Nat) (s : DS) (n : Nat) (h : DiskAt w F g s) (ok : s.Ok n) :
    Calls Try.prog 17 #[.pointer (some ⟨g, 0, none⟩)] w fun e w' => e = .returned (.int .i64 s.flush.1) ∧ DiskAt w' F g s.flush.2 ∧ Step F w F w' := by
  have hr := Lib.hid (ready_any w F g s n h ok)
  have ok' := DS.ready_ok ok
  obtain ⟨r, hrr⟩ : ∃ r, s.ready = r := ⟨_, rfl⟩
  have HS : Hid (s.flush = if r.1 = 0 then (0, { r.2 with dur := flushFold r.2.dur r.2.wr, wr := [] }) else r) := by show _ = _; unfold DS.flush; rw [hrr]
  rw [hrr] at hr ok'
  have hcode := DS.ready_code s
  rw [hrr] at hcode
  clear h ok hrr
  obtain ⟨c, s1⟩ := r
  simp only at hcode
  rcases hcode with rfl | rfl
  · have HS' : Hid (s.flush = (0, { s1 with dur := flushFold s1.dur s1.wr, wr := [] })) := by show _ = _; rw [HS.out, if_pos rfl]
    clear HS
    have OK := Lib.hid ok'; clear ok'
    go_enter Try.func17, Try.ntmps17
    go_wp2_with (fail)
    refine hr.out.mono ?_
    rintro e w0 ⟨rfl, hdisk, hstep⟩
    obtain ⟨gd, capd, W, K, h⟩ := hdisk
    have S0 := Lib.hid hstep; clear hstep hr
    have hc1 := h.cell1
    obtain ⟨aW, cW, rfl, hW1, hW2, hW3, hW4⟩ := ownsRow_shape h.wr
    have hwl : s1.wr.length ≤ 9223372036854775807 := by unfold maxLen at hW2; omega
    obtain ⟨R, hR1, hR2, hR3⟩ := h.durRow
    have hcm : capd ≤ maxLen := by
      rcases h.dur.2 with ⟨h', _⟩ | ⟨g', cap', cur, h', _, _, _, hm, _⟩
      · cases h'
      · injection h' with _ _ h3; rw [h3]; exact hm
    have H := Lib.hid h
    have HW3 := Lib.hid hW3; clear hW3
    have HW4 := Lib.hid hW4; clear hW4
    have HR1 := Lib.hid hR1; clear hR1
    have HR2 := Lib.hid hR2; clear hR2
    clear h
    go_wp2_with (fail)
    go_loopw [16] (fun i wr => ∃ j : Nat, j ≤ s1.wr.length ∧ i = .int .i64 j ∧ Hid (wr.heap[gd]? = some (.cells ((flushFold s1.dur (s1.wr.take j)).map (Value.int .u8) ++ R).toArray 5 (0, 0))) ∧ Hid (w0.grownBy wr (some gd))) (fun i _ => s1.wr.length - (intOf i).toNat)
    case atStart => exact ⟨0, Nat.zero_le _, rfl, by show _ = _; rw [List.take_zero]; simpa [flushFold] using HR1.out, World.grownBy.refl _ _⟩
    case round =>
      obtain ⟨j, hj, rfl, RB, RW⟩ := hrel
      by_cases hlt : j < s1.wr.length
      · obtain ⟨gw, rfl, hgw, hcw⟩ : ∃ gw, aW = some ⟨gw, 0, none⟩ ∧ (Value.slice aW s1.wr.length cW).ownBlock = some gw ∧ ∀ (i : Nat) (u : Value), (wcells s1.wr)[i]? = some u → w0.cell? ((⟨gw, 0, none⟩ : Addr).add i) = some u := by
          rcases aW with _ | ⟨gw, o, sp⟩
          · have := (HW3.out rfl).1; omega
          · obtain ⟨h1, h2, h3, h4⟩ := HW4.out _ rfl
            simp only at h1 h2; subst h1; subst h2
            exact ⟨gw, rfl, h3, h4⟩
        have HC := Lib.hid hcw; clear hcw
        have hgwd : gw ≠ gd := (H.out.fw gw hgw).2.2
        have hgdl := H.out.lt gd H.out.fd
        obtain ⟨p, hp⟩ : ∃ p, s1.wr[j] = p := ⟨_, rfl⟩
        have hpok := OK.out.wr p (hp ▸ List.getElem_mem hlt)
        have hR : wr.rangeAt gw (j * 65) (wcell p) := by
          intro i v hv
          have h1 := HC.out (65 * j + i) v (wcells_at (fun q hq => (OK.out.wr q hq).2.2) j hlt i v (by rw [hp]; exact hv))
          rw [Addr.add_lit] at h1
          have h2 := World.cell?_of_block (RW.out.block gw (World.block_lt_of_cell? w0 ⟨gw, 0 + (65 * j + i), none⟩ h1) (by simpa using hgwd)) (a := ⟨gw, j * 65 + i, none⟩)
          rw [h2, ← h1]; congr 2; omega
        have HR := Lib.hid hR; clear hR
        have hs : (Try.prog.info? 66).map (·.size) = some (wcell p).length := by rw [wcell_length hpok.2.2]; exact size_pending
        have HS := Lib.hid hs; clear hs
        have hw0 : (wcell p)[0]? = some (.int .i64 p.1) := rfl
        obtain ⟨pk, hpk⟩ : ∃ pk : Nat, p.1 = pk := ⟨p.1.toNat, by omega⟩
        have HPK := Lib.hid hpk
        rw [hpk] at hw0
        clear hpk
        have hgdr : gd < wr.heap.size := Nat.lt_of_lt_of_le hgdl RW.out.size
        have hpkn : pk < n := by have := HPK.out; omega
        have hdl : Hid ((flushFold s1.dur (s1.wr.take j)).length = 64 * n) := flushFold_length _ _ _ OK.out.dur (fun q hq => OK.out.wr q (List.mem_of_mem_take hq))
        have RB' : Hid ((wr.alloc (.cells (wcell p).toArray 66)).drew.heap[gd]? = some (.cells ((flushFold s1.dur (s1.wr.take j)).map (Value.int .u8) ++ R).toArray 5 (0, 0))) := by
          show (wr.alloc _).heap[gd]? = _
          rw [Below.heap_alloc _ _ _ hgdr]; exact RB.out
        have RW' : Hid (w0.grownBy (wr.alloc (.cells (wcell p).toArray 66)) (some gd)) := grown_alloc RW.out _
        have HL : Hid (p.2.length = 64) := hpok.2.2
        have HT : Hid (flushFold s1.dur (s1.wr.take (j + 1)) = splice (flushFold s1.dur (s1.wr.take j)) (64 * p.1.toNat) p.2) := by
          show _ = _
          rw [take_snoc' _ _ hlt, hp, flushFold_snoc]
        have hn := OK.out.hi
        have hc0 : wr.cell? ⟨g, 0, none⟩ = some (.slice (some ⟨gd, 0, none⟩) (64 * n) capd) := by
          rw [← OK.out.dur, ← H.out.cell0]
          exact World.cell?_of_block (RW.out.block g (H.out.lt g H.out.fg) (by simpa using H.out.ne))
        have hgr : g < wr.heap.size := Nat.lt_of_lt_of_le (H.out.lt g H.out.fg) RW.out.size
        have hcap0 : 64 * n ≤ capd := by have := OK.out.dur; omega
        have HPL : Hid (p.2.length = 64 ∧ p.1 = (pk : Int)) := ⟨HL.out, HPK.out⟩
        clear hp hpok hc1 HW3 HW4
        go_wp2_with (first
          | (with_reducible refine wpList_load_mid rfl 66 (.tmp 18) rfl gw (j * 65) rfl (wcell p) _ HR.out Try.underlying66 rfl HS.out ?_)
          | (with_reducible refine wpList_alloc_z rfl 66 rfl pzero.toArray zero_pending ?_)
          | (with_reducible refine wpList_store_last rfl 66 (.tmp 5) (.tmp 19) rfl pzero.toArray (wcell p).toArray rfl rfl (by simpa using HS.out) (by simp [wcell_length HL.out, pzero_length]) (by simpa using wcell_one p) ?_))
        refine wp_region_tail 6 (by kernel_rfl) (by kernel_rfl) ?_
        simp only [List.take_succ_cons, List.take_zero, List.drop_succ_cons, List.drop_zero]
        repeat still_step
        still_call (still_enter (sector_any _ g n capd gd pk (by exact cell_alloc hc0 _) hn hcap0 hpkn))
        repeat still_step
        refine wpStill_nil ?_
        have SD : Hid (∀ i v, (p.2.map (Value.int .u8))[i]? = some v → (wr.alloc (.cells (wcell p).toArray 66)).drew.cell? ((⟨wr.heap.size, 1, none⟩ : Addr).add i) = some v) := by
          intro i v hv'
          rw [Addr.add_lit]
          show (wr.alloc _).cell? _ = _
          rw [World.cell?_alloc_at _ _ _ _ rfl]
          simpa using wcell_data p i v hv'
        go_wp2_with (with_reducible refine wpList_copy_to rfl (.tmp 23) (.tmp 25) _ _ rfl 5 Try.underlying26 (by kernel_rfl) gd (64 * pk) 64 64 rfl ⟨wr.heap.size, 1, none⟩ 64 64 rfl _ _ RB'.out (p.2.map (.int .u8)) (by simp [HL.out]) SD.out (by simp [hdl.out, HL.out]; omega) (ints_oneCell _ _) ?_)
        intro w3 BK3 G3 Z3
        have R1 : Hid (w3.heap[gd]? = some (.cells ((flushFold s1.dur (s1.wr.take (j + 1))).map (Value.int .u8) ++ R).toArray 5 (0, 0))) := by
          show _ = _
          rw [BK3.out, splice_append _ _ _ _ (by simp [hdl.out, HL.out]; omega), HT.out, HPL.out.2, Int.toNat_natCast, map_splice]
        have R2 : Hid (w0.grownBy w3 (some gd)) := grown_trans (grown_drew RW'.out) G3.out
        clear BK3 G3 Z3 SD RB' HR HS
        go_wp2
        go_roundw
        case rel => exact ⟨j + 1, by omega, by go_num, R1, R2⟩
        case measure => simp [intOf]; omega
      · obtain rfl : j = s1.wr.length := by omega
        rw [List.take_length] at RB
        clear HW3 HW4 hc1
        have D := H.out.setDur RW.out (flushFold s1.dur s1.wr) R (by rw [flushFold_length _ _ _ OK.out.dur OK.out.wr, OK.out.dur]) HR2.out hcm RB.out
        have f1 := D.froz 1
        have c1 := D.cell1
        have D' := Lib.hid D; clear D
        go_wp2
        go_ret
        rw [HS'.out]
        exact ⟨rfl, ⟨gd, capd, .slice none 0 0, K, D'.out.setOwn 1 (.slice none 0 0) { s1 with dur := flushFold s1.dur s1.wr, wr := [] } (.slice none 0 0) K rfl rfl (.inr ⟨rfl, rfl⟩) (.inl ⟨rfl, rfl⟩)⟩,
          S0.out.trans ((Step.of_grown RW.out (by intro k hk; cases hk; exact H.out.fd)).setCell (.inl H.out.fg) _)⟩
  · have HS' : Hid (s.flush = (340, s1)) := by show _ = _; rw [HS.out, if_neg (by simp)]
    clear HS
    go_enter Try.func17, Try.ntmps17
    go_wp2_with (fail)
    refine hr.out.mono ?_
    rintro e w0 ⟨rfl, hdisk, hstep⟩
    have D := Lib.hid hdisk; clear hdisk
    have S := Lib.hid hstep; clear hstep hr
    go_wp2_with (fail)
    go_ret
    rw [HS'.out]
    exact ⟨rfl, D.out, S.out⟩

end Go.Proofs.Ythnolhcknhhipaa
