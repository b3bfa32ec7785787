/-
  The disk's Write.
  Condition: fewer than 2^30 writes are pending.
-/
import Derived.Test.YthnolhcknhhipaaDkReady
import Derived.Deep.RegionHeld3
import Derived.Deep.AppendLies
namespace Go.Proofs.Ythnolhcknhhipaa
set_option linter.unusedVariables false
set_option linter.unusedSimpArgs false
open Go.RowKit

set_option maxHeartbeats 400000 in
theorem write_bad (w : World) (F : Nat → Prop) (g : Nat) (s : DS) (n : Nat) (x : Int) (h : DiskAt w F g s) (ok : s.Ok n) (ao : Option Addr) (m cap : Nat) (hx : x < 0 ∨ (n : Int) ≤ x ∨ m ≠ 64) :
    Calls Try.prog 14 #[.pointer (some ⟨g, 0, none⟩), .int .i64 x, .slice ao m cap] w fun e w' => e = .returned (.int .i64 1) ∧ w = w' := by
  have hs' := Lib.hid (sectors_any w F g s n h ok)
  clear ok h
  by_cases h0 : x < 0
  · go_enter Try.func14, Try.ntmps14
    go_wp2_with (fail)
    go_ret
    exact ⟨rfl, rfl⟩
  · by_cases h1 : (n : Int) ≤ x
    · go_enter Try.func14, Try.ntmps14
      go_wp2_with (go_at_call 25; refine hs'.out.mono ?_; rintro e w' ⟨rfl, rfl⟩)
      go_ret
      exact ⟨rfl, rfl⟩
    · have hm : ((m : Int) == 64) = false := by
        rcases hx with h | h | h
        · omega
        · omega
        · simp; omega
      have hm2 : ((m : Int) != 64) = true := by simp only [bne, hm]; rfl
      clear hx
      go_enter Try.func14, Try.ntmps14
      go_wp2_with (go_at_call 25; refine hs'.out.mono ?_; rintro e w' ⟨rfl, rfl⟩)
      go_ret
      exact ⟨rfl, rfl⟩

/-- 64 zeros. -/
def z64 : List Int := List.replicate 64 0
theorem z64_length : z64.length = 64 := rfl
theorem wcell_splice (x : Int) (data : List Int) (h : data.length = 64) : splice (wcell (x, z64)) 1 (data.map (Value.int .u8)) = wcell (x, data) := by
  simp [splice, wcell, h, z64_length]

theorem built_pending (x : Int) : Try.prog.built 66 [(0, .int .i64 x)] = some (wcell (x, z64)).toArray := by kernel_rfl

/-- The one element that append lays. -/
theorem run_buildSlice_pending (cs : List Value) (w : World) (h : cs.length = 65) : (Instr.buildSlice 61 1 #[(0, .agg cs.toArray)]).run Try.prog w = .ok (.slice (some ⟨w.heap.size, 0, none⟩) 1 1) (w.alloc (.cells cs.toArray 66)) := by
  obtain ⟨i0, hi, hz0, hz1, hz2⟩ := info_parts infopending
  refine run_buildSlice w _ _ 1 _ _ i0 _ Try.underlying61 hi hz0 (by omega) (by omega) ?_
  have := Great.fill_whole (s := i0.size) (by omega) [.agg cs.toArray] ((Array.range (1 * i0.size)).map ((Value.agg pzero.toArray).cells[· % (Value.agg pzero.toArray).cells.size]!)) (by simp [Value.cells, h, hz1]) (by simp)
  simpa [Value.cells] using this

/-- The cells of a block. -/
def rowOf (w : World) (b : Nat) : Array Value := match w.heap[b]? with | some (.cells c _ _) => c | _ => #[]
theorem rowOf_drew (w : World) (b : Nat) : rowOf w.drew b = rowOf w b := rfl
theorem rowOf_alloc (w : World) (o : Obj) (b : Nat) (h : b < w.heap.size) : rowOf (w.alloc o) b = rowOf w b := by
  unfold rowOf; rw [Below.heap_alloc w o b h]
def rowPtr (w : World) (x : Value) : Array Value := match x with | .pointer (some ⟨b, 0, none⟩) => rowOf w b | _ => #[]
theorem rowPtr_ptr (w : World) (b : Nat) : rowPtr w (.pointer (some ⟨b, 0, none⟩)) = rowOf w b := rfl
theorem run_load_row (w : World) (x : Value) (h : (rowPtr w x).size = 65) : (Instr.loadAt 66 x).run Try.prog w = .ok (.agg (rowPtr w x)) w := by
  obtain ⟨b, rfl⟩ : ∃ b, x = .pointer (some ⟨b, 0, none⟩) := by
    unfold rowPtr at h
    split at h
    · next b => exact ⟨b, rfl⟩
    · simp at h
  rw [rowPtr_ptr] at h ⊢
  obtain ⟨c, t, fr, hc⟩ : ∃ c t fr, w.heap[b]? = some (.cells c t fr) := by
    unfold rowOf at h
    split at h
    · next c t fr hc => exact ⟨c, t, fr, hc⟩
    · simp at h
  have hr : rowOf w b = c := by unfold rowOf; rw [hc]
  rw [hr] at h ⊢
  have := run_loadAt_mid (P := Try.prog) w b 0 66 c.toList _ (fun j v hv => by rw [Nat.zero_add, cell_of_row w b j c t fr hc]; simpa using hv) Try.underlying66 rfl (by rw [size_pending]; simp [h])
  simpa using this

theorem exec_load_row (ρ : Operand → Value) (dst : Option Tmp) (x : Operand) (ty : TypeId) (pos : String) (after : Array Edge) (guard : Option (Nat × Bool)) (w : World) (h : (rowPtr w (ρ x)).size = 65) :
    (execOp ρ { dst, op := .load 66 x, type := ty, pos, after, guard }).run Try.prog w = .ok (.value (.agg (rowPtr w (ρ x)))) w := by
  unfold execOp
  simp only [Sem.run_bind, run_load_row w (ρ x) h, Result.andThen_ok]
  rfl

def aggOf (v : Value) : Array Value := match v with | .agg c => c | _ => #[]
theorem aggOf_agg (c : Array Value) : aggOf (.agg c) = c := rfl
theorem exec_buildSlice_pending (ρ : Operand → Value) (dst : Option Tmp) (x : Operand) (ty : TypeId) (pos : String) (after : Array Edge) (guard : Option (Nat × Bool)) (w : World) (h : (aggOf (ρ x)).size = 65) :
    (execOp ρ { dst, op := .buildSlice 61 1 #[(0, x)], type := ty, pos, after, guard }).run Try.prog w = .ok (.value (.slice (some ⟨w.heap.size, 0, none⟩) 1 1)) (w.alloc (.cells (aggOf (ρ x)) 66)) := by
  have hx : ρ x = .agg (aggOf (ρ x)).toList.toArray := by
    unfold aggOf at h ⊢
    split at h
    · next c hc => simp [hc]
    · simp at h
  unfold execOp
  have := run_buildSlice_pending (aggOf (ρ x)).toList w (by simpa using h)
  rw [← hx] at this
  simp [this, Result.andThen]

attribute [local go_sem ↓] exec_buildSlice_pending exec_load_row
attribute [local go_sem] rowOf_drew rowOf_alloc rowPtr_ptr aggOf_agg

set_option maxRecDepth 100000 in
set_option maxHeartbeats 1000000 in
theorem write_any (w : World) (F : Nat → Prop) (g : Nat) (s : DS) (n : Nat) (k : Nat) (h : DiskAt w F g s) (ok : s.Ok n) (hk : k < n) (b o cap : Nat) (data : List Int) (hdl : data.length = 64) (hb : ¬ F b)
    (hdc : ∀ j u, (data.map (Value.int .u8))[j]? = some u → w.cell? ⟨b, o + j, none⟩ = some u) (hwr : s.wr.length < 1073741824) :
    Calls Try.prog 14 #[.pointer (some ⟨g, 0, none⟩), .int .i64 k, .slice (some ⟨b, o, none⟩) 64 cap] w fun e w' => e = .returned (.int .i64 (s.write k data).1) ∧ ∃ F', DiskAt w' F' g (s.write k data).2 ∧ Step F w F' w' := by
  have hs' := Lib.hid (sectors_any w F g s n h ok)
  have hr := Lib.hid (ready_any w F g s n h ok)
  have hwl : s.ready.2.wr.length < 1073741824 := by
    unfold DS.ready
    split
    · exact hwr
    · split
      · unfold DS.crash; split
        · exact hwr
        · simp
      · exact hwr
  have ok' := DS.ready_ok ok
  have hkn : (k : Int) < (n : Int) := by omega
  have hk0 : (0 : Int) ≤ (k : Int) := Int.natCast_nonneg k
  obtain ⟨r, hrr⟩ : ∃ r, s.ready = r := ⟨_, rfl⟩
  have HS : Hid (s.write k data = if r.1 = 0 then (0, { r.2 with wr := r.2.wr ++ [((k : Int), data)] }) else r) := by show _ = _; unfold DS.write; rw [hrr]
  rw [hrr] at hr ok' hwl
  have hcode := DS.ready_code s
  rw [hrr] at hcode
  clear h ok hrr hwr
  obtain ⟨c, s1⟩ := r
  simp only at hcode hwl
  have HD := Lib.hid hdl; clear hdl
  have HC := Lib.hid hdc; clear hdc
  rcases hcode with rfl | rfl
  · have HS' : Hid (s.write k data = (0, { s1 with wr := s1.wr ++ [((k : Int), data)] })) := by show _ = _; rw [HS.out, if_pos rfl]
    clear HS
    have OK := Lib.hid ok'; clear ok'
    go_enter Try.func14, Try.ntmps14
    go_wp2_with (go_at_call 25; refine hs'.out.mono ?_; rintro e w' ⟨rfl, rfl⟩)
    refine hr.out.mono ?_
    rintro e w0 ⟨rfl, hdisk, hstep⟩
    have D := Lib.hid hdisk; clear hdisk
    have S := Lib.hid hstep; clear hstep hr hs'
    have hsrc : Hid (∀ j u, (data.map (Value.int .u8))[j]? = some u → (w0.alloc (.cells (wcell ((k : Int), z64)).toArray 66)).cell? ((⟨b, o, none⟩ : Addr).add j) = some u) := by
      intro j u hu
      rw [Addr.add_lit]
      exact cell_alloc (S.out.cell hb (HC.out j u hu)) _
    have hnew : Hid ((w0.alloc (.cells (wcell ((k : Int), z64)).toArray 66)).heap[w0.heap.size]? = some (.cells (wcell ((k : Int), z64)).toArray 66 (0, 0))) := heap_alloc_new w0 _
    go_wp2_with (first
      | (with_reducible refine wpList_build_one rfl 66 (.tmp 27) rfl (.int .i64 (k : Int)) (wcell ((k : Int), z64)).toArray rfl (built_pending k) ?_)
      | (with_reducible refine wpList_alloc_z rfl 66 rfl pzero.toArray zero_pending ?_)
      | ((with_reducible refine wpList_store_last rfl 66 (.tmp 8) (.tmp 28) rfl pzero.toArray (wcell ((k : Int), z64)).toArray rfl rfl ?h1 ?h2 ?h3 ?_); (case h1 => exact size_pending); (case h2 => rfl); (case h3 => simpa using wcell_one _))
      | (with_reducible refine wpList_copy_to rfl (.tmp 30) (.tmp 31) _ _ rfl 5 Try.underlying26 (by kernel_rfl) w0.heap.size 1 64 64 rfl ⟨b, o, none⟩ 64 cap rfl _ _ hnew.out (data.map (.int .u8)) (by simp [HD.out]) hsrc.out (by simp [HD.out]; exact Nat.le_of_eq (wcell_length z64_length).symm) (ints_oneCell _ _) ?_))
    intro w2 BK2 G2 Z2
    obtain ⟨gd, capd, W, K, h⟩ := D.out
    have hb2 : Hid (w2.heap[w0.heap.size]? = some (.cells (wcell ((k : Int), data)).toArray 66 (0, 0))) := by
      show _ = _; rw [BK2.out, wcell_splice _ _ HD.out]
    have hZ : Hid (w2.heap.size = w0.heap.size + 1) := by show _ = _; rw [Z2.out]
    have hst : Hid (Below w0.heap.size w0 w2) := ((Below.refl _ _).alloc (Nat.le_refl _) _).grown G2.out (by simp) (by intro k hk; cases hk; exact Nat.le_refl _)
    have h2 : DiskIn w2 F g s1 gd capd W K := h.below hst.out
    obtain ⟨aW, cW, rfl, hW1, hW2, hW3, hW4⟩ := ownsRow_shape h2.wr
    have c1 := h2.cell1
    have f1 := h2.froz 1
    obtain ⟨i0, hi, hz0, hz1, hz2⟩ := info_parts infopending
    have hr : Hid (w2.drew.rangeAt w0.heap.size 0 (wcell ((k : Int), data))) := by
      intro j v hv
      show w2.cell? _ = _
      simp only [World.cell?, hb2.out, Option.isSome_none, Nat.zero_add, Bool.false_eq_true, if_false]
      simpa using hv
    have hs65 : Hid ((Try.prog.info? 66).map (·.size) = some (wcell ((k : Int), data)).length) := by show _ = _; rw [wcell_length HD.out]; exact size_pending
    have H2 := Lib.hid h2; clear h2 h
    have D0 := D
    clear hW3 hW4 BK2 G2 Z2 hnew hsrc D
    have hwl65 : (wcell ((k : Int), data)).length = 65 := wcell_length HD.out
    have hgl := H2.out.lt g H2.out.fg
    have hgn : g < w0.heap.size := by have := hZ.out; have := hst.out; obtain ⟨gd', capd', W', K', h'⟩ := (show DiskAt w0 F g s1 from D0.out); exact h'.lt g h'.fg
    have hnl : w0.heap.size < w2.heap.size := by have := hZ.out; omega
    have hown : Hid (w2.ownsRow 0 66 65 (.slice aW s1.wr.length cW) s1.wr.length (wcells s1.wr)) := H2.out.wr
    have hrow : rowOf w2 w0.heap.size = (wcell ((k : Int), data)).toArray := by unfold rowOf; rw [hb2.out]
    have FAR : Hid (∀ w3, ((w2.alloc (.cells (wcell ((k : Int), data)).toArray 66)).drew).grownBy w3 (Value.slice aW s1.wr.length cW).ownBlock → w3.cell? ⟨g, 1, none⟩ = some (.slice aW s1.wr.length cW) ∧ w3.frozen? ⟨g, 1, none⟩ = false) := by
      intro w3 hg3
      have hne : some g ≠ (Value.slice aW s1.wr.length cW).ownBlock := fun e => (H2.out.fw g e.symm).2.1 rfl
      have hblk := hg3.block g (by show g < (w2.alloc _).heap.size; simp; omega) hne
      have hblk2 : w3.heap[g]? = w2.heap[g]? := by rw [hblk]; exact Below.heap_alloc w2 _ g hgl
      exact ⟨(World.cell?_of_block (a := ⟨g, 1, none⟩) hblk2).trans c1, (World.frozen?_of_block (a := ⟨g, 1, none⟩) hblk2).trans f1⟩
    go_wp2_with (fail)
    go_region_law ((refine step_append_lies _ (by rfl) (.tmp 37) (.tmp 39) 61 (by rfl) 0 66 i0 (.agg pzero.toArray) 65 72 Try.underlying61 hi hz0 hz1 hz2 rfl (by omega) (.slice aW s1.wr.length cW) s1.wr.length (wcells s1.wr) (by rfl) ((hown.out.alloc _).drew) ⟨w2.heap.size, 0, none⟩ 1 1 (wcell ((k : Int), data)) (by rfl) (by omega) (World.news_of_block (cs := (wcell ((k : Int), data)).toArray) (t := 66) (fr := (0, 0)) (heap_alloc_new w2 _)) (wcell_one _) (by omega) (by unfold maxLen; omega) (by omega) (by simp) (w2.heap.size + 1) (by simp) ?_; intro gg cap3 w3 hown3 hgrow hat hlt; have q1 := (FAR.out _ hgrow).1; have q2 := (FAR.out _ hgrow).2))
    all_goals
      have O3 := Lib.hid hown3; clear hown3
      have G3 := Lib.hid hgrow; clear hgrow
      have A3 := Lib.hid hat; clear hat
      go_wp2
      go_ret
      rw [HS'.out]
      have g23 : w2.grownBy w3 (Value.slice aW s1.wr.length cW).ownBlock := grown_trans (grown_drew (World.grownBy_alloc w2 _ _)) G3.out
      have hws := S.out.size
      have hz := hZ.out
      refine ⟨rfl, fun k => F k ∨ k = gg, ⟨gd, capd, _, K, H2.out.newW g23 (.slice (some ⟨gg, 0, none⟩) (s1.wr.length + 1) cap3) (s1.wr ++ [((k : Int), data)]) (by simpa [wcells] using O3.out) (fun _ h => .inl h) ?_ ?_⟩, ?_⟩
      · rintro i (hi | rfl)
        · exact Nat.lt_of_lt_of_le (H2.out.lt i hi) g23.size
        · exact hlt
      · intro i e
        have e' : gg = i := by simpa [Value.ownBlock] using e
        subst e'
        rcases A3.out with h | h
        · exact ⟨.inr rfl, (H2.out.fw gg h).2.1, (H2.out.fw gg h).2.2, fun e => (H2.out.fk gg e).2.2.2 h⟩
        · have hgd := H2.out.lt gd H2.out.fd
          exact ⟨.inr rfl, by omega, by omega, fun e => by have := H2.out.lt gg (H2.out.fk gg e).1; omega⟩
      · refine (((S.out.trans (Step.of_below hst.out F)).trans (Step.of_grown g23 (fun i e => (H2.out.fw i e).1))).setCell (.inl H2.out.fg) _).to (fun _ h => h) ?_
        rintro i (hi | rfl)
        · exact .inl hi
        · rcases A3.out with h | h
          · exact .inl (H2.out.fw i h).1
          · exact .inr (by omega)
  · have HS' : Hid (s.write k data = (340, s1)) := by show _ = _; rw [HS.out, if_neg (by simp)]
    clear HS
    go_enter Try.func14, Try.ntmps14
    go_wp2_with (go_at_call 25; refine hs'.out.mono ?_; rintro e w' ⟨rfl, rfl⟩)
    refine hr.out.mono ?_
    rintro e w0 ⟨rfl, hdisk, hstep⟩
    have D := Lib.hid hdisk; clear hdisk
    have S := Lib.hid hstep; clear hstep hr hs'
    go_wp2_with (fail)
    go_ret
    rw [HS'.out]
    exact ⟨rfl, F, D.out, S.out⟩

end Go.Proofs.Ythnolhcknhhipaa
