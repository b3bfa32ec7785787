/-
  The reference's New; its Flush as one contract.
  No condition.
-/
import Derived.Test.YthnolhcknhhipaaDkRefJ
namespace Go.Proofs.Ythnolhcknhhipaa
set_option linter.unusedVariables false
set_option linter.unusedSimpArgs false
open Go.RowKit

theorem refflush_any (w : World) (M : Nat → Prop) (hM : ∀ b, M b → b < w.heap.size) (n : Nat) (v : Value) (s : DS) (h : RefAt w M n v s) (ok : s.Ok n) (hwr : s.wr.length < 1073741824) :
    Calls Try.prog 32 #[v] w fun e w' => ∃ r, e = .returned (.tuple #[r, .int .i64 s.flush.1]) ∧ RefAt w' M n r s.flush.2 ∧ Below w.heap.size w w' := by
  cases hdn : s.down with
  | true =>
    have e : s.flush = (340, s) := by simp [DS.flush, DS.ready, hdn]
    rw [e]; exact refflush_down w M hM n v s h ok hwr hdn
  | false =>
    by_cases hf : s.fuse = 1
    · have e : s.flush = (340, s.crash s.kept) := by simp [DS.flush, DS.ready, hdn, hf]
      rw [e]; exact refflush_crash w M hM n v s h ok hwr hdn hf
    · have e : s.flush = (0, { s with dur := flushFold s.dur s.wr, fuse := max (s.fuse - 1) 0, wr := [] }) := by simp [DS.flush, DS.ready, hdn, hf]
      rw [e]; exact refflush_on w M hM n v s h ok hwr hdn hf

/-- A row of the call's own that holds slices of bytes. -/
def GridOwn (w : World) (lo b0 : Nat) (C : Value) (L : List (List Int)) : Prop :=
  ∃ us : List Value, w.ownsRow lo 26 1 C L.length us ∧ us.length = L.length ∧ ∀ i (h1 : i < us.length) (h2 : i < L.length), Bytes w (fun b => b ≤ b0 ∨ C.ownBlock = some b) us[i] L[i] ∧ us[i].oneCell' = true

/-- Another slice behind the row. -/
theorem grid_more {w w3 w4 : World} {lo b0 : Nat} {C C' u : Value} {us : List Value} {L : List (List Int)} {xs : List Int} {t : TypeId} (h : w.ownsRow lo 26 1 C L.length us) (hl : us.length = L.length)
    (hb : ∀ i (h1 : i < us.length) (h2 : i < L.length), Bytes w (fun b => b ≤ b0 ∨ C.ownBlock = some b) us[i] L[i] ∧ us[i].oneCell' = true)
    (h3 : Below w.heap.size w w3) (hu : ByteBlock w3 w.heap.size xs) (hue : u = .slice (some ⟨w.heap.size, 0, none⟩) xs.length xs.length) (hx : xs.length ≤ maxLen)
    (h0 : b0 < w.heap.size) (hlo : lo ≤ w.heap.size) (hb0 : b0 < lo)
    (hown : w4.ownsRow lo 26 1 C' (L.length + 1) (us ++ [u])) (hg : (w3.alloc (.cells #[u] t)).grownBy w4 C.ownBlock) (hat : C'.ownBlock = C.ownBlock ∨ C'.ownBlock = some (w3.alloc (.cells #[u] t)).heap.size) (v : Value) (k : Nat) :
    GridOwn (w4.setCell ⟨b0, k, none⟩ v) lo b0 C' (L ++ [xs]) := by
  have hs3 := h3.size
  have hga : (w3.alloc (.cells #[u] t)).heap.size = w3.heap.size + 1 := by simp
  have hcl : ∀ b, C.ownBlock = some b → b < w.heap.size := fun b e => (h.lt b e).2
  -- what no step turns
  have hst : Step (fun b => b ≤ b0 ∨ C.ownBlock = some b) w (fun b => b ≤ b0 ∨ C'.ownBlock = some b) (w4.setCell ⟨b0, k, none⟩ v) := by
    have s1 : Step (fun b => b ≤ b0 ∨ C.ownBlock = some b) w (fun b => b ≤ b0 ∨ C.ownBlock = some b) (w3.alloc (.cells #[u] t)) := (Step.of_below h3 _).alloc _
    have s2 := s1.grown hg (fun b e => .inl (.inr e))
    have s3 := s2.setCell (p := ⟨b0, k, none⟩) (.inl (.inl (Nat.le_refl _))) v
    refine s3.to (fun _ h => h) (fun b hb => ?_)
    rcases hb with hb | hb
    · exact .inl (.inl hb)
    · rcases hat with e | e
      · exact .inl (.inr (e ▸ hb))
      · rw [e] at hb; cases hb; exact .inr (by omega)
  have hset : ∀ b, b ≠ b0 → (w4.setCell ⟨b0, k, none⟩ v).heap[b]? = w4.heap[b]? := fun b hb => heap_setCell_other w4 ⟨b0, k, none⟩ b v hb
  have hul : xs.length ≤ xs.length := Nat.le_refl _
  have hnew : Bytes (w4.setCell ⟨b0, k, none⟩ v) (fun b => b ≤ b0 ∨ C'.ownBlock = some b) u xs := by
    have hne : C.ownBlock ≠ some w.heap.size := fun e => by have := hcl _ e; omega
    have hblk : ByteBlock (w4.setCell ⟨b0, k, none⟩ v) w.heap.size xs := by
      show _ = _
      rw [hset _ (by omega), hg.block _ (by have := hu.lt; omega) (fun e => hne e.symm), Below.heap_alloc _ _ _ hu.lt]
      exact hu
    rw [hue]
    refine hblk.bytes (fun hm => ?_) hx
    rcases hm with hm | hm
    · omega
    · rcases hat with e | e
      · exact hne (e ▸ hm)
      · rw [e] at hm; have := hu.lt; have : w3.heap.size + 1 = w.heap.size := by rw [← hga]; exact Option.some.inj hm
        omega
  refine ⟨us ++ [u], ?_, by simp [hl], fun i h1 h2 => ?_⟩
  · have := ownsRow_of_block (w' := w4.setCell ⟨b0, k, none⟩ v) hown (fun b e => hset b (by have := (hown.lt b e).1; omega))
    simpa using this
  · rcases Nat.lt_or_ge i L.length with hi | hi
    · have hi' : i < us.length := by omega
      rw [List.getElem_append_left hi', List.getElem_append_left hi]
      exact ⟨Bytes.step (hb i hi' hi).1 hst, (hb i hi' hi).2⟩
    · obtain rfl : i = L.length := by simp at h2; omega
      have e1 : (us ++ [u])[L.length] = u := by rw [List.getElem_append_right (by omega)]; simp
      have e2 : (L ++ [xs])[L.length] = xs := by rw [List.getElem_append_right (by omega)]; simp
      rw [e1, e2]
      exact ⟨hnew, by rw [hue]; rfl⟩

theorem step_make_full {P : Program} (w : World) {ops : Array Oper} {o : Oper} {a : Act} {K : Act → World → Prop} {Q : Exit → Act → World → Prop} {E : Prop}
    (hg : o.guard = none) (l c : Operand) (t : TypeId) (hop : o.op = Op.makeSlice t l c)
    (base : Nat) (e : TypeId) (i : TypeInfo) (z : Value) (size : Nat) (h1 : P.underlying t = some (.slice e)) (h2 : P.info? e = some i) (h3 : i.zero = some z) (h4 : i.size = size)
    (kl kc : IntKind) (L C : Int) (n : Nat) (hl : a.eval l = .int kl L) (hc : a.eval c = .int kc C) (hL : L = (n : Int)) (hC : C = (n : Int)) (b2 : i.bytes * n ≤ 281474976710656) (b3 : n ≤ maxLen) (b4 : base ≤ w.heap.size)
    (hK : ∀ w', w'.ownsRow base e size (.slice (some ⟨w.heap.size, 0, none⟩) n n) n (madeCells z.cells (n * size)).toList → w.grownBy w' none → K (a.put o.dst (.slice (some ⟨w.heap.size, 0, none⟩) n n)) w') :
    if Region.wanted o (yielded ops a.tmps) = true then Oper.wp P o a w K Q else E := by
  have hw : Region.wanted o (yielded ops a.tmps) = true := by simp [Region.wanted, hg]
  rw [if_pos hw]
  obtain ⟨w', hrun, r1, r2⟩ := run_make_full (P := P) w base t e i z size h1 h2 h3 h4 kl kc n b2 b3 b4
  subst hL
  subst hC
  unfold Oper.wp
  simp [execOp, hop, hl, hc, hrun, Result.andThen]
  exact hK w' r1 r2

theorem step_append_own {P : Program} {w : World} {ops : Array Oper} {o : Oper} {a : Act} {K : Act → World → Prop} {Q : Exit → Act → World → Prop} {E : Prop} (hgd : o.guard = none) (s x : Operand) (t : TypeId)
    (ho : o.op = .call { callee := .builtin .append, args := #[s, x], argTypes := #[t, t] })
    (base : Nat) (e : TypeId) (i : TypeInfo) (z : Value) (size bytes : Nat) (ht : P.underlying t = some (.slice e)) (hi : P.info? e = some i) (hz : i.zero = some z)
    (hsize : i.size = size) (hby : i.bytes = bytes) (hzs : z.cells.size = size) (hsz : 0 < size)
    (v : Value) (n : Nat) (xs : List Value) (hs : a.eval s = v) (hown : w.ownsRow base e size v n xs)
    (ad : Addr) (m c : Nat) (news : List Value) (hx : a.eval x = .slice (some ad) m c) (hl : news.length = m * size) (hnews : ∀ j u, news[j]? = some u → w.cell? (ad.add j) = some u) (h1 : ∀ u ∈ news, u.oneCell' = true)
    (h63 : n + m ≤ maxLen) (hbytes : (n + m) * bytes ≤ 140737488355328) (hbase : base ≤ w.heap.size)
    (h : ∀ v' w', w'.ownsRow base e size v' (n + m) (xs ++ news) → w.grownBy w' v.ownBlock → (v'.ownBlock = v.ownBlock ∨ v'.ownBlock = some w.heap.size) → K (a.put o.dst v') w') : if Region.wanted o (yielded ops a.tmps) = true then Oper.wp P o a w K Q else E := by
  have hw : Region.wanted o (yielded ops a.tmps) = true := by simp [Region.wanted, hgd]
  rw [if_pos hw]
  obtain ⟨v', w', hrun, r1, r2, -, r3⟩ := run_append_own_at (P := P) w base t o.type e i z size bytes ht hi hz hsize hby hzs hsz v n xs hown ad m c news hl hnews h1 h63 hbytes hbase
  unfold Oper.wp
  simp [execOp, ho, resolve, invoke, builtin, hs, hx, hrun, Result.andThen]
  exact h v' w' r1 r2 r3

theorem box_new (w : World) : ∃ w0 bx, w.alloc (.cells st0 48) = w0 ∧ w.heap.size = bx ∧ w0.heap.size = bx + 1 ∧ w0.heap[bx]? = some (.cells st0 48 (0, 0)) ∧ Below w.heap.size w w0 :=
  ⟨_, _, rfl, rfl, by simp, heap_alloc_new w _, (Below.refl _ _).alloc (Nat.le_refl _) _⟩

set_option maxRecDepth 100000 in
set_option maxHeartbeats 400000 in
theorem refnew_small (w : World) (x : Int) (h : x < 1) :
    Calls Try.prog 22 #[.int .i64 x] w fun e w' => ∃ r, e = .returned (.tuple #[.agg st0, .int .i64 r]) ∧ r = 1 ∧ Below w.heap.size w w' := by
  obtain ⟨w0, bx, hw0q, hbx, hsz, hB, hb0⟩ := box_new w
  obtain ⟨x0, x1, x2, x3, x4⟩ := box_cells hB
  have z := box_frozen hB
  have B0 := Lib.hid hb0; have R0 := Lib.hid hB; have BX := Lib.hid hbx
  clear hB hb0 hsz
  go_enter Try.func22, Try.ntmps22
  go_wp2_with (fail)
  obtain ⟨w9, hw9, P9, Q9, -⟩ := put5 (w0 := w) (c0 := .slice none 0 0) (c1 := .slice none 0 0) (c2 := .bool false) (c3 := .int .i64 0) (c4 := .slice none 0 0) R0.out B0.out (by have := BX.out; omega)
  rw [hw9]
  obtain ⟨z0, z1, z2, z3, z4⟩ := box_cells P9
  clear x0 x1 x2 x3 x4 z hw9
  refine bodyPost_ret (v := .tuple #[.agg st0, .int .i64 1]) (by simp [results, Try.results22, go_sem, z0, z1, z2, z3, z4]) rfl ?_
  exact ⟨_, rfl, rfl, by first | exact Q9 | (rw [← BX.out]; exact Q9)⟩

set_option maxRecDepth 100000 in
set_option maxHeartbeats 400000 in
theorem refnew_large (w : World) (x : Int) (h : 65536 < x) :
    Calls Try.prog 22 #[.int .i64 x] w fun e w' => ∃ r, e = .returned (.tuple #[.agg st0, .int .i64 r]) ∧ r = 2 ∧ Below w.heap.size w w' := by
  obtain ⟨w0, bx, hw0q, hbx, hsz, hB, hb0⟩ := box_new w
  obtain ⟨x0, x1, x2, x3, x4⟩ := box_cells hB
  have z := box_frozen hB
  have B0 := Lib.hid hb0; have R0 := Lib.hid hB; have BX := Lib.hid hbx
  clear hB hb0 hsz
  go_enter Try.func22, Try.ntmps22
  go_wp2_with (fail)
  obtain ⟨w9, hw9, P9, Q9, -⟩ := put5 (w0 := w) (c0 := .slice none 0 0) (c1 := .slice none 0 0) (c2 := .bool false) (c3 := .int .i64 0) (c4 := .slice none 0 0) R0.out B0.out (by have := BX.out; omega)
  rw [hw9]
  obtain ⟨z0, z1, z2, z3, z4⟩ := box_cells P9
  clear x0 x1 x2 x3 x4 z hw9
  refine bodyPost_ret (v := .tuple #[.agg st0, .int .i64 2]) (by simp [results, Try.results22, go_sem, z0, z1, z2, z3, z4]) rfl ?_
  exact ⟨_, rfl, rfl, by first | exact Q9 | (rw [← BX.out]; exact Q9)⟩

set_option maxRecDepth 100000 in
set_option maxHeartbeats 400000 in
theorem refnew_any (w : World) (n : Nat) (h1 : 1 ≤ n) (h2 : n ≤ 65536) :
    Calls Try.prog 22 #[.int .i64 n] w fun e w' => ∃ r, e = .returned (.tuple #[r, .int .i64 0]) ∧ (∀ M : Nat → Prop, (∀ b, M b → b < w.heap.size) → RefAt w' M n r (DS.new n)) ∧ Below w.heap.size w w' := by
  obtain ⟨i0, hi, hz0, hz1, hz2⟩ := info_parts infobytes
  obtain ⟨i1, hi', hy0, hy1, hy2⟩ := info_parts infobyte
  obtain ⟨w0, bx, hw0q, hbx, hsz, hB, hb0⟩ := box_new w
  have R1 := heap_alloc_new w0 (.cells st0 48)
  have hb1 : Below w.heap.size w (w0.alloc (.cells st0 48)) := hb0.alloc hb0.size _
  have hB' : (w0.alloc (.cells st0 48)).heap[bx]? = some (.cells st0 48 (0, 0)) := (Below.heap_alloc _ _ _ (by omega)).trans hB
  obtain ⟨w1, hw1q⟩ : ∃ w1, w0.alloc (.cells st0 48) = w1 := ⟨_, rfl⟩
  rw [hw1q] at R1 hb1 hB'
  rw [hsz] at R1
  have B1 := Lib.hid hb1; have HB := Lib.hid hB'; have HR := Lib.hid R1; have BX := Lib.hid hbx
  have hs1 : w1.heap.size = bx + 2 := by rw [← hw1q]; simp [hsz]
  obtain ⟨y0, y1, y2, y3, y4⟩ := box_cells R1
  have z := box_frozen R1
  have HS1 := Lib.hid hs1
  clear hB hb0 hb1 hB' R1 hs1
  go_enter Try.func22, Try.ntmps22
  go_wp2_with (fail)
  obtain ⟨w2, hw2, P2, Q2, S2⟩ := put5 (w0 := w) (c0 := .slice none 0 0) (c1 := .slice none 0 0) (c2 := .bool false) (c3 := .int .i64 0) (c4 := .slice none 0 0) HR.out B1.out (by have := BX.out; omega)
  rw [hw2]
  have HB2 : Hid (w2.heap[bx]? = some (.cells st0 48 (0, 0))) := (S2.block bx (by have := HS1.out; omega) (by omega)).trans HB.out
  have HR2 := Lib.hid P2; have B2 := Lib.hid Q2
  have HS2 : Hid (bx + 2 ≤ w2.heap.size) := by have h1 := HS1.out; have h2 := S2.size; show _ ≤ _; omega
  clear hw2 P2 Q2 S2
  clear y0 y1 y2 y3 y4 z
  have INV : Hid (∃ C, w2.heap[bx + 1]? = some (.cells (st5 C (.slice none 0 0) false 0 (.slice none 0 0)) 48 (0, 0)) ∧ w2.heap[bx]? = some (.cells st0 48 (0, 0)) ∧ GridOwn w2 (bx + 2) (bx + 1) C (List.replicate 0 (List.replicate 64 0))) :=
    ⟨_, HR2.out, HB2.out, ⟨[], World.ownsRow_nil _ _ _ _, rfl, fun i h1 h2 => by simp at h1⟩⟩
  go_loopw [5] (fun i wr => ∃ j : Nat, j ≤ n ∧ i = .int .i64 j ∧ Hid (Below w.heap.size w wr) ∧ Hid (bx + 2 ≤ wr.heap.size) ∧ Hid (∃ C, wr.heap[bx + 1]? = some (.cells (st5 C (.slice none 0 0) false 0 (.slice none 0 0)) 48 (0, 0)) ∧ wr.heap[bx]? = some (.cells st0 48 (0, 0)) ∧ GridOwn wr (bx + 2) (bx + 1) C (List.replicate j (List.replicate 64 0)))) (fun i _ => n - (intOf i).toNat)
  case atStart => exact ⟨0, Nat.zero_le _, rfl, B2, HS2, INV⟩
  case round =>
    clear INV B1 HB HR HS1 hw1q hw0q hsz B2 HR2 HB2 HS2
    obtain ⟨j, hj, rfl, BR, SR, INV⟩ := hrel
    obtain ⟨C, I1, I0, IG⟩ := INV.out
    obtain ⟨y0, y1, y2, y3, y4⟩ := box_cells I1
    have z := box_frozen I1
    have hj0 : (0 : Int) ≤ (j : Int) := by omega
    have I1' := Lib.hid I1; have I0' := Lib.hid I0
    by_cases hlt : j < n
    · obtain ⟨us, g1, g2, g3⟩ := IG
      rw [List.length_replicate] at g1 g2
      obtain ⟨ca, cc, rfl⟩ : ∃ ca cc, C = .slice ca j cc := by obtain ⟨a, c, e, -⟩ := ownsRow_shape g1; exact ⟨a, c, e⟩
      have G1 := Lib.hid g1; have G2 := Lib.hid g2; have G3 := Lib.hid g3
      clear I1 I0 g1 g2 g3 INV
      have hj1 : (j : Int) < n := by omega
      go_wp2_with (fail)
      refine wp_region_held_drew (S := fun _ => True) (by kernel_rfl) trivial (fun hS => ?_)
      refine wpAnyH_take (i := 0) (v := (.pointer (some ⟨bx + 1, 0, none⟩))) rfl (by kernel_rfl) (by kernel_rfl) (by kernel_rfl) (fun _ _ _ h => h) (Or.inl ⟨by rfl, ?_⟩) hS ?_
      · intro w hSw
        go_simp
      try simp only [Act.put, List.getElem_toArray, List.getElem_cons_zero, List.getElem_cons_succ, List.setIfInBounds_toArray, List.set_cons_zero, List.set_cons_succ]
      refine wpAnyH_ready (rs := [1, 2]) (by kernel_rfl) (by simp) ?_
      refine AllReadyH.cons rfl (fun K hK => ?_) ?_
      · go_simp
        refine hK.out _ _ trivial (fun hS => ?_)
        clear hK K
        try simp only [Act.put, List.getElem_toArray, List.getElem_cons_zero, List.getElem_cons_succ, List.setIfInBounds_toArray, List.set_cons_zero, List.set_cons_succ]
        refine wpAnyH_ready (rs := [2]) (by kernel_rfl) (by simp) ?_
        refine AllReadyH.cons rfl (fun K hK => ?_) AllReadyH.nil
        refine step_make_full _ rfl _ _ 26 rfl 0 5 i1 (.int .u8 0) 1 Try.underlying26 hi' hy0 hy1 .i64 .i64 64 64 64 rfl rfl (by omega) (by omega) (by rw [hy2]; omega) (by unfold maxLen; omega) (Nat.zero_le _) ?_
        intro w3 hown hg
        have MB : Hid (ByteBlock w3 wr.heap.size (List.replicate 64 0)) := by
          show w3.heap[wr.drew.heap.size]? = _
          rw [ownsRow_full hown, show (madeCells (Value.int IntKind.u8 0).cells (64 * 1)).toList = List.replicate 64 (Value.int .u8 0) from toList_madeCells_one _ _]; simp
        have MG : Hid (Below wr.heap.size wr w3) := ((Below.refl _ _).drew).grown hg (Nat.le_refl _) (by simp)
        have y0' := cell_below MG.out y0
        have y0'' := cell_alloc y0' (.cells #[(.slice (some ⟨wr.heap.size, 0, none⟩) 64 64)] 26)
        have GW : Hid ((w3.alloc (.cells #[(.slice (some ⟨wr.heap.size, 0, none⟩) 64 64)] 26)).ownsRow (bx + 2) 26 1 (.slice ca j cc) j us) := ownsRow_below (MG.out.alloc MG.out.size _) G1.out
        have IW : Hid ((w3.alloc (.cells #[(.slice (some ⟨wr.heap.size, 0, none⟩) 64 64)] 26)).heap[bx + 1]? = some (.cells (st5 (.slice ca j cc) (.slice none 0 0) false 0 (.slice none 0 0)) 48 (0, 0))) := heap_below (MG.out.alloc MG.out.size _) I1'.out
        have IV : Hid ((w3.alloc (.cells #[(.slice (some ⟨wr.heap.size, 0, none⟩) 64 64)] 26)).heap[bx]? = some (.cells st0 48 (0, 0))) := heap_below (MG.out.alloc MG.out.size _) I0'.out
        clear hown hg
        refine hK.out _ _ trivial (fun hS => ?_)
        clear hK K
        try simp only [Act.put, List.getElem_toArray, List.getElem_cons_zero, List.getElem_cons_succ, List.setIfInBounds_toArray, List.set_cons_zero, List.set_cons_succ]
        refine wpAnyH_ready (rs := [3]) (by kernel_rfl) (by simp) ?_
        refine AllReadyH.cons rfl (fun K hK => ?_) AllReadyH.nil
        go_simp
        refine hK.out _ _ trivial (fun hS => ?_)
        clear hK K
        try simp only [Act.put, List.getElem_toArray, List.getElem_cons_zero, List.getElem_cons_succ, List.setIfInBounds_toArray, List.set_cons_zero, List.set_cons_succ]
        refine wpAnyH_ready (rs := [4]) (by kernel_rfl) (by simp) ?_
        refine AllReadyH.cons rfl (fun K hK => ?_) AllReadyH.nil
        refine step_append_own rfl (.tmp 19) (.tmp 21) 45 rfl (bx + 2) 26 i0 (.slice none 0 0) 1 24 Try.underlying45 hi hz0 hz1 hz2 rfl (by decide) (.slice ca j cc) j us rfl GW.out ⟨w3.heap.size, 0, none⟩ 1 1 [(.slice (some ⟨wr.heap.size, 0, none⟩) 64 64)] rfl rfl (cell_one_new _ _ _) (by intro u hu; simp at hu; subst hu; rfl) (by unfold maxLen; omega) (by omega) (by have h1 := SR.out; have h2 := MG.out.size; simp; omega) ?_
        intro v' w4 hown4 hg4 hat4
        obtain ⟨va, vc, rfl⟩ : ∃ va vc, v' = .slice va (j + 1) vc := by obtain ⟨a, c, e, -⟩ := ownsRow_shape hown4; exact ⟨a, c, e⟩
        have hcb : ∀ b, (Value.slice ca j cc).ownBlock = some b → bx + 2 ≤ b := fun b e => (GW.out.lt b e).1
        have I4 := (hg4.block (bx + 1) (by have h1 := SR.out; have h2 := MG.out.size; simp; omega) (fun e => by have := hcb _ e.symm; omega)).trans IW.out
        have I5 := (hg4.block bx (by have h1 := SR.out; have h2 := MG.out.size; simp; omega) (fun e => by have := hcb _ e.symm; omega)).trans IV.out
        have GM : Hid (GridOwn (w4.setCell ⟨bx + 1, 0, none⟩ (.slice va (j + 1) vc)) (bx + 2) (bx + 1) (.slice va (j + 1) vc) (List.replicate j (List.replicate 64 0) ++ [List.replicate 64 0])) :=
          grid_more (lo := bx + 2) (b0 := bx + 1) (C := .slice ca j cc) (C' := .slice va (j + 1) vc) (u := (.slice (some ⟨wr.heap.size, 0, none⟩) 64 64)) (us := us) (L := List.replicate j (List.replicate 64 0)) (xs := List.replicate 64 0) (t := 26)
            (by rw [List.length_replicate]; exact G1.out) (by rw [List.length_replicate]; exact G2.out) G3.out MG.out MB.out rfl (by simp [maxLen]) SR.out SR.out (by omega) (by rw [List.length_replicate]; exact hown4) hg4 hat4 (.slice va (j + 1) vc) 0
        have B4 : Hid (Below w.heap.size w (w4.setCell ⟨bx + 1, 0, none⟩ (.slice va (j + 1) vc))) := by
          have h1 : Below w.heap.size w (w3.alloc (.cells #[(.slice (some ⟨wr.heap.size, 0, none⟩) 64 64)] 26)) := BR.out.trans ((MG.out.alloc MG.out.size _).mono BR.out.size)
          exact (h1.grown hg4 h1.size (fun b e => by have := hcb b e; have := BX.out; omega)).setCell (by have := BX.out; show w.heap.size ≤ bx + 1; omega) _
        have S4 : Hid (bx + 2 ≤ (w4.setCell ⟨bx + 1, 0, none⟩ (.slice va (j + 1) vc)).heap.size) := by
          have h1 := SR.out; have h2 := MG.out.size; have h3 := hg4.size
          show _ ≤ _
          simp [World.setCell] at h3 ⊢; omega
        have I6 : Hid ((w4.setCell ⟨bx + 1, 0, none⟩ (.slice va (j + 1) vc)).heap[bx + 1]? = some (.cells (st5 (.slice va (j + 1) vc) (.slice none 0 0) false 0 (.slice none 0 0)) 48 (0, 0))) := by
          show _ = _; rw [heap_setCell_same w4 (bx + 1) 0 _ _ _ I4]; rfl
        have I7 : Hid ((w4.setCell ⟨bx + 1, 0, none⟩ (.slice va (j + 1) vc)).heap[bx]? = some (.cells st0 48 (0, 0))) := by
          show _ = _; rw [heap_setCell_other w4 ⟨bx + 1, 0, none⟩ bx _ (by simp)]; exact I5
        have q0 := (box_cells I4).1
        have q1 := box_frozen I4 0
        clear hown4 hg4 hat4 I4 I5 y0 y0' y0''
        refine hK.out _ _ trivial (fun hS => ?_)
        clear hK K
        try simp only [Act.put, List.getElem_toArray, List.getElem_cons_zero, List.getElem_cons_succ, List.setIfInBounds_toArray, List.set_cons_zero, List.set_cons_succ]
        refine wpAnyH_take (i := 5) (v := (.pointer (some ⟨bx + 1, 0, none⟩))) rfl (by kernel_rfl) (by kernel_rfl) (by kernel_rfl) (fun _ _ _ h => h) (Or.inl ⟨by rfl, ?_⟩) hS ?_
        · intro w hSw
          go_simp
        try simp only [Act.put, List.getElem_toArray, List.getElem_cons_zero, List.getElem_cons_succ, List.setIfInBounds_toArray, List.set_cons_zero, List.set_cons_succ]
        refine wpAnyH_ready (rs := [6]) (by kernel_rfl) (by simp) ?_
        refine AllReadyH.cons rfl (fun K hK => ?_) AllReadyH.nil
        go_simp
        refine hK.out _ _ trivial (fun hS => ?_)
        clear hK K
        refine wpAnyH_done (by kernel_rfl) ?_ _
        try simp only [Act.put, List.getElem_toArray, List.getElem_cons_zero, List.getElem_cons_succ, List.setIfInBounds_toArray, List.set_cons_zero, List.set_cons_succ]
        go_wp2_with (fail)
        go_roundw
        case rel => exact ⟨j + 1, by omega, by go_num, B4, S4, ⟨_, I6.out, I7.out, by rw [List.replicate_succ']; exact GM.out⟩⟩
        case measure => simp [intOf]; omega
      refine AllReadyH.cons rfl (fun K hK => ?_) AllReadyH.nil
      refine step_make_full _ rfl _ _ 26 rfl 0 5 i1 (.int .u8 0) 1 Try.underlying26 hi' hy0 hy1 .i64 .i64 64 64 64 rfl rfl (by omega) (by omega) (by rw [hy2]; omega) (by unfold maxLen; omega) (Nat.zero_le _) ?_
      intro w3 hown hg
      have MB : Hid (ByteBlock w3 wr.heap.size (List.replicate 64 0)) := by
        show w3.heap[wr.drew.heap.size]? = _
        rw [ownsRow_full hown, show (madeCells (Value.int IntKind.u8 0).cells (64 * 1)).toList = List.replicate 64 (Value.int .u8 0) from toList_madeCells_one _ _]; simp
      have MG : Hid (Below wr.heap.size wr w3) := ((Below.refl _ _).drew).grown hg (Nat.le_refl _) (by simp)
      have y0' := cell_below MG.out y0
      have y0'' := cell_alloc y0' (.cells #[(.slice (some ⟨wr.heap.size, 0, none⟩) 64 64)] 26)
      have GW : Hid ((w3.alloc (.cells #[(.slice (some ⟨wr.heap.size, 0, none⟩) 64 64)] 26)).ownsRow (bx + 2) 26 1 (.slice ca j cc) j us) := ownsRow_below (MG.out.alloc MG.out.size _) G1.out
      have IW : Hid ((w3.alloc (.cells #[(.slice (some ⟨wr.heap.size, 0, none⟩) 64 64)] 26)).heap[bx + 1]? = some (.cells (st5 (.slice ca j cc) (.slice none 0 0) false 0 (.slice none 0 0)) 48 (0, 0))) := heap_below (MG.out.alloc MG.out.size _) I1'.out
      have IV : Hid ((w3.alloc (.cells #[(.slice (some ⟨wr.heap.size, 0, none⟩) 64 64)] 26)).heap[bx]? = some (.cells st0 48 (0, 0))) := heap_below (MG.out.alloc MG.out.size _) I0'.out
      clear hown hg
      refine hK.out _ _ trivial (fun hS => ?_)
      clear hK K
      try simp only [Act.put, List.getElem_toArray, List.getElem_cons_zero, List.getElem_cons_succ, List.setIfInBounds_toArray, List.set_cons_zero, List.set_cons_succ]
      refine wpAnyH_ready (rs := [1, 3]) (by kernel_rfl) (by simp) ?_
      refine AllReadyH.cons rfl (fun K hK => ?_) ?_
      · go_simp
        refine hK.out _ _ trivial (fun hS => ?_)
        clear hK K
        try simp only [Act.put, List.getElem_toArray, List.getElem_cons_zero, List.getElem_cons_succ, List.setIfInBounds_toArray, List.set_cons_zero, List.set_cons_succ]
        refine wpAnyH_ready (rs := [3]) (by kernel_rfl) (by simp) ?_
        refine AllReadyH.cons rfl (fun K hK => ?_) AllReadyH.nil
        go_simp
        refine hK.out _ _ trivial (fun hS => ?_)
        clear hK K
        try simp only [Act.put, List.getElem_toArray, List.getElem_cons_zero, List.getElem_cons_succ, List.setIfInBounds_toArray, List.set_cons_zero, List.set_cons_succ]
        refine wpAnyH_ready (rs := [4]) (by kernel_rfl) (by simp) ?_
        refine AllReadyH.cons rfl (fun K hK => ?_) AllReadyH.nil
        refine step_append_own rfl (.tmp 19) (.tmp 21) 45 rfl (bx + 2) 26 i0 (.slice none 0 0) 1 24 Try.underlying45 hi hz0 hz1 hz2 rfl (by decide) (.slice ca j cc) j us rfl GW.out ⟨w3.heap.size, 0, none⟩ 1 1 [(.slice (some ⟨wr.heap.size, 0, none⟩) 64 64)] rfl rfl (cell_one_new _ _ _) (by intro u hu; simp at hu; subst hu; rfl) (by unfold maxLen; omega) (by omega) (by have h1 := SR.out; have h2 := MG.out.size; simp; omega) ?_
        intro v' w4 hown4 hg4 hat4
        obtain ⟨va, vc, rfl⟩ : ∃ va vc, v' = .slice va (j + 1) vc := by obtain ⟨a, c, e, -⟩ := ownsRow_shape hown4; exact ⟨a, c, e⟩
        have hcb : ∀ b, (Value.slice ca j cc).ownBlock = some b → bx + 2 ≤ b := fun b e => (GW.out.lt b e).1
        have I4 := (hg4.block (bx + 1) (by have h1 := SR.out; have h2 := MG.out.size; simp; omega) (fun e => by have := hcb _ e.symm; omega)).trans IW.out
        have I5 := (hg4.block bx (by have h1 := SR.out; have h2 := MG.out.size; simp; omega) (fun e => by have := hcb _ e.symm; omega)).trans IV.out
        have GM : Hid (GridOwn (w4.setCell ⟨bx + 1, 0, none⟩ (.slice va (j + 1) vc)) (bx + 2) (bx + 1) (.slice va (j + 1) vc) (List.replicate j (List.replicate 64 0) ++ [List.replicate 64 0])) :=
          grid_more (lo := bx + 2) (b0 := bx + 1) (C := .slice ca j cc) (C' := .slice va (j + 1) vc) (u := (.slice (some ⟨wr.heap.size, 0, none⟩) 64 64)) (us := us) (L := List.replicate j (List.replicate 64 0)) (xs := List.replicate 64 0) (t := 26)
            (by rw [List.length_replicate]; exact G1.out) (by rw [List.length_replicate]; exact G2.out) G3.out MG.out MB.out rfl (by simp [maxLen]) SR.out SR.out (by omega) (by rw [List.length_replicate]; exact hown4) hg4 hat4 (.slice va (j + 1) vc) 0
        have B4 : Hid (Below w.heap.size w (w4.setCell ⟨bx + 1, 0, none⟩ (.slice va (j + 1) vc))) := by
          have h1 : Below w.heap.size w (w3.alloc (.cells #[(.slice (some ⟨wr.heap.size, 0, none⟩) 64 64)] 26)) := BR.out.trans ((MG.out.alloc MG.out.size _).mono BR.out.size)
          exact (h1.grown hg4 h1.size (fun b e => by have := hcb b e; have := BX.out; omega)).setCell (by have := BX.out; show w.heap.size ≤ bx + 1; omega) _
        have S4 : Hid (bx + 2 ≤ (w4.setCell ⟨bx + 1, 0, none⟩ (.slice va (j + 1) vc)).heap.size) := by
          have h1 := SR.out; have h2 := MG.out.size; have h3 := hg4.size
          show _ ≤ _
          simp [World.setCell] at h3 ⊢; omega
        have I6 : Hid ((w4.setCell ⟨bx + 1, 0, none⟩ (.slice va (j + 1) vc)).heap[bx + 1]? = some (.cells (st5 (.slice va (j + 1) vc) (.slice none 0 0) false 0 (.slice none 0 0)) 48 (0, 0))) := by
          show _ = _; rw [heap_setCell_same w4 (bx + 1) 0 _ _ _ I4]; rfl
        have I7 : Hid ((w4.setCell ⟨bx + 1, 0, none⟩ (.slice va (j + 1) vc)).heap[bx]? = some (.cells st0 48 (0, 0))) := by
          show _ = _; rw [heap_setCell_other w4 ⟨bx + 1, 0, none⟩ bx _ (by simp)]; exact I5
        have q0 := (box_cells I4).1
        have q1 := box_frozen I4 0
        clear hown4 hg4 hat4 I4 I5 y0 y0' y0''
        refine hK.out _ _ trivial (fun hS => ?_)
        clear hK K
        try simp only [Act.put, List.getElem_toArray, List.getElem_cons_zero, List.getElem_cons_succ, List.setIfInBounds_toArray, List.set_cons_zero, List.set_cons_succ]
        refine wpAnyH_take (i := 5) (v := (.pointer (some ⟨bx + 1, 0, none⟩))) rfl (by kernel_rfl) (by kernel_rfl) (by kernel_rfl) (fun _ _ _ h => h) (Or.inl ⟨by rfl, ?_⟩) hS ?_
        · intro w hSw
          go_simp
        try simp only [Act.put, List.getElem_toArray, List.getElem_cons_zero, List.getElem_cons_succ, List.setIfInBounds_toArray, List.set_cons_zero, List.set_cons_succ]
        refine wpAnyH_ready (rs := [6]) (by kernel_rfl) (by simp) ?_
        refine AllReadyH.cons rfl (fun K hK => ?_) AllReadyH.nil
        go_simp
        refine hK.out _ _ trivial (fun hS => ?_)
        clear hK K
        refine wpAnyH_done (by kernel_rfl) ?_ _
        try simp only [Act.put, List.getElem_toArray, List.getElem_cons_zero, List.getElem_cons_succ, List.setIfInBounds_toArray, List.set_cons_zero, List.set_cons_succ]
        go_wp2_with (fail)
        go_roundw
        case rel => exact ⟨j + 1, by omega, by go_num, B4, S4, ⟨_, I6.out, I7.out, by rw [List.replicate_succ']; exact GM.out⟩⟩
        case measure => simp [intOf]; omega
      refine AllReadyH.cons rfl (fun K hK => ?_) AllReadyH.nil
      go_simp
      refine hK.out _ _ trivial (fun hS => ?_)
      clear hK K
      try simp only [Act.put, List.getElem_toArray, List.getElem_cons_zero, List.getElem_cons_succ, List.setIfInBounds_toArray, List.set_cons_zero, List.set_cons_succ]
      refine wpAnyH_ready (rs := [1]) (by kernel_rfl) (by simp) ?_
      refine AllReadyH.cons rfl (fun K hK => ?_) AllReadyH.nil
      go_simp
      refine hK.out _ _ trivial (fun hS => ?_)
      clear hK K
      try simp only [Act.put, List.getElem_toArray, List.getElem_cons_zero, List.getElem_cons_succ, List.setIfInBounds_toArray, List.set_cons_zero, List.set_cons_succ]
      refine wpAnyH_ready (rs := [4]) (by kernel_rfl) (by simp) ?_
      refine AllReadyH.cons rfl (fun K hK => ?_) AllReadyH.nil
      refine step_append_own rfl (.tmp 19) (.tmp 21) 45 rfl (bx + 2) 26 i0 (.slice none 0 0) 1 24 Try.underlying45 hi hz0 hz1 hz2 rfl (by decide) (.slice ca j cc) j us rfl GW.out ⟨w3.heap.size, 0, none⟩ 1 1 [(.slice (some ⟨wr.heap.size, 0, none⟩) 64 64)] rfl rfl (cell_one_new _ _ _) (by intro u hu; simp at hu; subst hu; rfl) (by unfold maxLen; omega) (by omega) (by have h1 := SR.out; have h2 := MG.out.size; simp; omega) ?_
      intro v' w4 hown4 hg4 hat4
      obtain ⟨va, vc, rfl⟩ : ∃ va vc, v' = .slice va (j + 1) vc := by obtain ⟨a, c, e, -⟩ := ownsRow_shape hown4; exact ⟨a, c, e⟩
      have hcb : ∀ b, (Value.slice ca j cc).ownBlock = some b → bx + 2 ≤ b := fun b e => (GW.out.lt b e).1
      have I4 := (hg4.block (bx + 1) (by have h1 := SR.out; have h2 := MG.out.size; simp; omega) (fun e => by have := hcb _ e.symm; omega)).trans IW.out
      have I5 := (hg4.block bx (by have h1 := SR.out; have h2 := MG.out.size; simp; omega) (fun e => by have := hcb _ e.symm; omega)).trans IV.out
      have GM : Hid (GridOwn (w4.setCell ⟨bx + 1, 0, none⟩ (.slice va (j + 1) vc)) (bx + 2) (bx + 1) (.slice va (j + 1) vc) (List.replicate j (List.replicate 64 0) ++ [List.replicate 64 0])) :=
        grid_more (lo := bx + 2) (b0 := bx + 1) (C := .slice ca j cc) (C' := .slice va (j + 1) vc) (u := (.slice (some ⟨wr.heap.size, 0, none⟩) 64 64)) (us := us) (L := List.replicate j (List.replicate 64 0)) (xs := List.replicate 64 0) (t := 26)
          (by rw [List.length_replicate]; exact G1.out) (by rw [List.length_replicate]; exact G2.out) G3.out MG.out MB.out rfl (by simp [maxLen]) SR.out SR.out (by omega) (by rw [List.length_replicate]; exact hown4) hg4 hat4 (.slice va (j + 1) vc) 0
      have B4 : Hid (Below w.heap.size w (w4.setCell ⟨bx + 1, 0, none⟩ (.slice va (j + 1) vc))) := by
        have h1 : Below w.heap.size w (w3.alloc (.cells #[(.slice (some ⟨wr.heap.size, 0, none⟩) 64 64)] 26)) := BR.out.trans ((MG.out.alloc MG.out.size _).mono BR.out.size)
        exact (h1.grown hg4 h1.size (fun b e => by have := hcb b e; have := BX.out; omega)).setCell (by have := BX.out; show w.heap.size ≤ bx + 1; omega) _
      have S4 : Hid (bx + 2 ≤ (w4.setCell ⟨bx + 1, 0, none⟩ (.slice va (j + 1) vc)).heap.size) := by
        have h1 := SR.out; have h2 := MG.out.size; have h3 := hg4.size
        show _ ≤ _
        simp [World.setCell] at h3 ⊢; omega
      have I6 : Hid ((w4.setCell ⟨bx + 1, 0, none⟩ (.slice va (j + 1) vc)).heap[bx + 1]? = some (.cells (st5 (.slice va (j + 1) vc) (.slice none 0 0) false 0 (.slice none 0 0)) 48 (0, 0))) := by
        show _ = _; rw [heap_setCell_same w4 (bx + 1) 0 _ _ _ I4]; rfl
      have I7 : Hid ((w4.setCell ⟨bx + 1, 0, none⟩ (.slice va (j + 1) vc)).heap[bx]? = some (.cells st0 48 (0, 0))) := by
        show _ = _; rw [heap_setCell_other w4 ⟨bx + 1, 0, none⟩ bx _ (by simp)]; exact I5
      have q0 := (box_cells I4).1
      have q1 := box_frozen I4 0
      clear hown4 hg4 hat4 I4 I5 y0 y0' y0''
      refine hK.out _ _ trivial (fun hS => ?_)
      clear hK K
      try simp only [Act.put, List.getElem_toArray, List.getElem_cons_zero, List.getElem_cons_succ, List.setIfInBounds_toArray, List.set_cons_zero, List.set_cons_succ]
      refine wpAnyH_take (i := 5) (v := (.pointer (some ⟨bx + 1, 0, none⟩))) rfl (by kernel_rfl) (by kernel_rfl) (by kernel_rfl) (fun _ _ _ h => h) (Or.inl ⟨by rfl, ?_⟩) hS ?_
      · intro w hSw
        go_simp
      try simp only [Act.put, List.getElem_toArray, List.getElem_cons_zero, List.getElem_cons_succ, List.setIfInBounds_toArray, List.set_cons_zero, List.set_cons_succ]
      refine wpAnyH_ready (rs := [6]) (by kernel_rfl) (by simp) ?_
      refine AllReadyH.cons rfl (fun K hK => ?_) AllReadyH.nil
      go_simp
      refine hK.out _ _ trivial (fun hS => ?_)
      clear hK K
      refine wpAnyH_done (by kernel_rfl) ?_ _
      try simp only [Act.put, List.getElem_toArray, List.getElem_cons_zero, List.getElem_cons_succ, List.setIfInBounds_toArray, List.set_cons_zero, List.set_cons_succ]
      go_wp2_with (fail)
      go_roundw
      case rel => exact ⟨j + 1, by omega, by go_num, B4, S4, ⟨_, I6.out, I7.out, by rw [List.replicate_succ']; exact GM.out⟩⟩
      case measure => simp [intOf]; omega
    · obtain rfl : j = n := by omega
      obtain ⟨us, g1, g2, g3⟩ := IG
      rw [List.length_replicate] at g1 g2
      obtain ⟨ca, cc, rfl⟩ : ∃ ca cc, C = .slice ca j cc := by obtain ⟨a, c, e, -⟩ := ownsRow_shape g1; exact ⟨a, c, e⟩
      have G1 := Lib.hid g1; have G2 := Lib.hid g2; have G3 := Lib.hid g3
      obtain ⟨t0, t1, t2, t3, t4⟩ := box_cells I0
      have z' := box_frozen I0
      clear I1 I0 g1 g2 g3 INV
      go_wp2_with (fail)
      obtain ⟨w9, hw9, P9, Q9, S9⟩ := put5 (w0 := w) (c0 := .slice ca j cc) (c1 := .slice none 0 0) (c2 := .bool false) (c3 := .int .i64 0) (c4 := .slice none 0 0) I0'.out BR.out (by have := BX.out; omega)
      rw [hw9]
      obtain ⟨z0, z1, z2, z3, z4⟩ := box_cells P9
      clear y0 y1 y2 y3 y4 t0 t1 t2 t3 t4 z z' hw9
      refine bodyPost_ret (v := .tuple #[.agg #[.slice ca j cc, .slice none 0 0, .bool false, .int .i64 0, .slice none 0 0], .int .i64 0]) (by simp [results, Try.results22, go_sem, z0, z1, z2, z3, z4]) rfl ?_
      have hne : ∀ b, (Value.slice ca j cc).ownBlock = some b → b ≠ bx := fun b e h => by have := (G1.out.lt b e).1; omega
      refine ⟨_, rfl, fun M hM => ⟨_, _, _, rfl, ?_, Pend.nil _ _, ⟨none, 0, rfl, Nat.le_refl _, by simp [maxLen], fun _ => ⟨rfl, rfl⟩, .inl rfl⟩⟩, Q9⟩
      have hl : (sects (DS.new j).dur j).length = j := sects_length _ _
      obtain ⟨ao, cap, hv, hc, hm, hz, hsh⟩ := ownsRow_shape G1.out
      cases hv
      refine ⟨ca, cc, by rw [hl], by omega, hm, fun e => by rw [hl]; exact hz e, fun i hi => ?_⟩
      have hij : i < j := by rw [hl] at hi; exact hi
      cases ca with
      | none => have := (hz rfl).1; omega
      | some ad =>
        obtain ⟨b, off, sp⟩ := ad
        obtain ⟨e1, e2, e3, e4⟩ := hsh _ rfl
        simp only at e1 e2 e3
        subst e1; subst e2
        have hi' : i < us.length := by have := G2.out; omega
        have hcell := e4 i us[i] (by simp [hi'])
        rw [Addr.add_lit] at hcell
        have hbx := hne b e3
        have hbl := (G1.out.lt b e3).2
        refine ⟨b, 0, us[i], rfl, Nat.lt_of_lt_of_le hbl S9.size, fun h => by have := hM b h; have := (G1.out.lt b e3).1; have := BX.out; omega, ?_, ?_⟩
        · rw [World.cell?_of_block (S9.block b hbl hbx)]; exact hcell
        · have hb := (G3.out i hi' (by simpa using hij)).1
          have he : (sects (DS.new j).dur j)[i] = List.replicate 64 0 := by
            rw [sects_get]
            apply List.ext_getElem?
            intro m
            rw [sect_get]
            by_cases hm : m < 64
            · rw [if_pos hm]
              simp only [DS.new]
              rw [List.getElem?_replicate, List.getElem?_replicate, if_pos (by omega), if_pos hm]
            · rw [if_neg hm]; simp; omega
          rw [he]
          have hb' : Bytes wr (fun b' => b' ≤ bx + 1 ∨ (Value.slice (some ⟨b, 0, none⟩) j cc).ownBlock = some b') us[i] (List.replicate 64 0) := by
            have := hb; simp only [List.getElem_replicate] at this; exact this
          exact hb'.step ((S9.wide (M := fun b' => b' ≤ bx + 1 ∨ (Value.slice (some ⟨b, 0, none⟩) j cc).ownBlock = some b') (fun k hk => .inl (by omega))).to (fun _ h => h) (fun k hk => .inl (.inl (by have := hM k hk; have := BX.out; omega))))

end Go.Proofs.Ythnolhcknhhipaa
