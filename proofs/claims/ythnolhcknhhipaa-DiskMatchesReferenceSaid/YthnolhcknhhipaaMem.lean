/-
  Small words on memory: what a call that may write a known set of blocks does to the world ('Step'), and slices of numbers that can be read.
  No condition.
-/
import Derived.WalkKit
import Derived.WalkSpells
import Derived.WalkLawsBesides
import Derived.ProofKit
import Derived.OpenShut
import Derived.Handy
import Derived.Lib.Hide
import Derived.Deep.LoopGhost
import Derived.Deep.RegionWith
import Derived.Deep.QuietTactic
import Derived.BigQuiet
import Derived.Laws.CopyOwn
import Derived.Deep.WholeRow
import Derived.Deep.MidRow
import Derived.StillTailTactics
import Derived.Great.BuildSlice
namespace Go.Proofs.Ythnolhcknhhipaa
set_option linter.unusedVariables false
set_option linter.unusedSimpArgs false
open Go.RowKit Go.Great

/-- From w to w' nothing that was there has turned but blocks of M; the blocks of M' are blocks of M or new ones. -/
structure Step (M : Nat → Prop) (w : World) (M' : Nat → Prop) (w' : World) : Prop where
  os : w'.os = w.os
  tape : w'.tape = w.tape
  output : w'.output = w.output
  size : w.heap.size ≤ w'.heap.size
  block : ∀ k, k < w.heap.size → ¬ M k → w'.heap[k]? = w.heap[k]?
  grow : ∀ k, M' k → M k ∨ w.heap.size ≤ k

def NoB : Nat → Prop := fun _ => False

theorem Step.refl (M : Nat → Prop) (w : World) : Step M w M w := ⟨rfl, rfl, rfl, Nat.le_refl _, fun _ _ _ => rfl, fun _ h => .inl h⟩

theorem Step.trans {M0 M1 M2 : Nat → Prop} {a b c : World} (h : Step M0 a M1 b) (k : Step M1 b M2 c) : Step M0 a M2 c :=
  ⟨k.os.trans h.os, k.tape.trans h.tape, k.output.trans h.output, Nat.le_trans h.size k.size,
   fun i hi hm => (k.block i (Nat.lt_of_lt_of_le hi h.size) (fun hm1 => (h.grow i hm1).elim hm (fun hle => by omega))).trans (h.block i hi hm),
   fun i hi => (k.grow i hi).elim (h.grow i) (fun hle => .inr (Nat.le_trans h.size hle))⟩

/-- A call that may write less, and holds less behind it. -/
theorem Step.wide {F F' M : Nat → Prop} {w w' : World} (h : Step F w F' w') (hF : ∀ k, F k → M k) : Step M w M w' :=
  ⟨h.os, h.tape, h.output, h.size, fun k hk hm => h.block k hk (fun hf => hm (hF k hf)), fun _ hk => .inl hk⟩

theorem Step.to {F F' M M' : Nat → Prop} {w w' : World} (h : Step F w F' w') (hF : ∀ k, F k → M k) (hM : ∀ k, M' k → M k ∨ w.heap.size ≤ k) : Step M w M' w' :=
  ⟨h.os, h.tape, h.output, h.size, fun k hk hm => h.block k hk (fun hf => hm (hF k hf)), hM⟩

theorem Step.of_below {w w' : World} (h : Below w.heap.size w w') (M : Nat → Prop) : Step M w M w' :=
  ⟨h.os, h.tape, h.output, h.size, fun k hk _ => h.block k hk, fun _ hk => .inl hk⟩

theorem Step.below {M' : Nat → Prop} {w w' : World} (h : Step NoB w M' w') : Below w.heap.size w w' :=
  ⟨h.os, h.tape, h.output, h.size, fun k hk => h.block k hk (fun hf => hf)⟩

theorem Step.belowB {M M' : Nat → Prop} {w w' : World} {B : Nat} (h : Step M w M' w') (hB : B ≤ w.heap.size) (hM : ∀ k, M k → B ≤ k) : Below B w w' :=
  ⟨h.os, h.tape, h.output, h.size, fun k hk => h.block k (by omega) (fun hf => by have := hM k hf; omega)⟩

theorem Step.drew {M M' : Nat → Prop} {a w : World} (h : Step M a M' w) : Step M a M' w.drew := ⟨h.os, h.tape, h.output, h.size, h.block, h.grow⟩

theorem Step.drewN {M M' : Nat → Prop} {a w : World} (h : Step M a M' w) (n : Nat) : Step M a M' (w.drewN n) := by
  induction n with
  | zero => exact h
  | succ n ih => exact ih.drew

theorem Step.alloc {M M' : Nat → Prop} {a w : World} (h : Step M a M' w) (o : Obj) : Step M a M' (w.alloc o) :=
  h.trans ⟨rfl, rfl, rfl, by simp, fun k hk _ => Below.heap_alloc _ _ _ hk, fun _ hk => .inl hk⟩

theorem Step.setCell {M M' : Nat → Prop} {a w : World} (h : Step M a M' w) {p : Addr} (hp : M p.block ∨ a.heap.size ≤ p.block) (u : Value) : Step M a M' (w.setCell p u) :=
  ⟨h.os, h.tape, h.output, by have := h.size; simpa [World.setCell] using this, fun k hk hm => by
    rw [Below.heap_setCell _ _ _ _ (by rintro rfl; rcases hp with hp | hp; exact hm hp; omega)]; exact h.block k hk hm, h.grow⟩

/-- Behind an append or a make. -/
theorem Step.grown {M M' : Nat → Prop} {a w w' : World} {row : Option Nat} (h : Step M a M' w) (hg : w.grownBy w' row) (hr : ∀ k, row = some k → M k ∨ a.heap.size ≤ k) : Step M a M' w' :=
  ⟨hg.os.trans h.os, hg.tape.trans h.tape, hg.output.trans h.output, Nat.le_trans h.size hg.size, fun k hk hm => by
    rw [hg.block k (Nat.lt_of_lt_of_le hk h.size) (fun e => (hr k e.symm).elim hm (fun h => by omega))]; exact h.block k hk hm, h.grow⟩

theorem Step.cell {M M' : Nat → Prop} {w w' : World} (h : Step M w M' w') {p : Addr} (hp : ¬ M p.block) {v : Value} (hv : w.cell? p = some v) : w'.cell? p = some v := by
  have hb : p.block < w.heap.size := World.block_lt_of_cell? w p hv
  rw [World.cell?_of_block (h.block p.block hb hp)]; exact hv

theorem Step.away {M M' : Nat → Prop} {w w' : World} (h : Step M w M' w') {b : Nat} (hb : b < w.heap.size) (hm : ¬ M b) : ¬ M' b := fun hm' => (h.grow b hm').elim hm (fun hle => by omega)

/-- The slice v can be read: n elements, the cells of which are xs; its block is none of M. -/
def Reads (w : World) (M : Nat → Prop) (v : Value) (n : Nat) (xs : List Value) : Prop :=
  ∃ ao cap, v = .slice ao n cap ∧ n ≤ cap ∧ cap ≤ maxLen ∧ (ao = none → n = 0 ∧ cap = 0) ∧ (xs = [] ∨ ∃ b off, ao = some ⟨b, off, none⟩ ∧ b < w.heap.size ∧ ¬ M b ∧ ∀ j u, xs[j]? = some u → w.cell? ⟨b, off + j, none⟩ = some u)

theorem Reads.step {M M' : Nat → Prop} {w w' : World} {v : Value} {n : Nat} {xs : List Value} (h : Reads w M v n xs) (hs : Step M w M' w') : Reads w' M' v n xs := by
  obtain ⟨ao, cap, hv, hc, hm, h0, hx⟩ := h
  refine ⟨ao, cap, hv, hc, hm, h0, hx.imp id ?_⟩
  rintro ⟨b, off, ha, hb, hmb, hcell⟩
  exact ⟨b, off, ha, Nat.lt_of_lt_of_le hb hs.size, hs.away hb hmb, fun j u hu => hs.cell hmb (hcell j u hu)⟩

theorem Reads.wide {M M' : Nat → Prop} {w : World} {v : Value} {n : Nat} {xs : List Value} (h : Reads w M v n xs) (hM : ∀ k, k < w.heap.size → M' k → M k) : Reads w M' v n xs := by
  obtain ⟨ao, cap, hv, hc, hm, h0, hx⟩ := h
  refine ⟨ao, cap, hv, hc, hm, h0, hx.imp id ?_⟩
  rintro ⟨b, off, ha, hb, hmb, hcell⟩
  exact ⟨b, off, ha, hb, fun h => hmb (hM b hb h), hcell⟩

/-- A slice of bytes, of whole numbers. -/
def Bytes (w : World) (M : Nat → Prop) (v : Value) (xs : List Int) : Prop := Reads w M v xs.length (xs.map (.int .u8))
def Ints (w : World) (M : Nat → Prop) (v : Value) (xs : List Int) : Prop := Reads w M v xs.length (xs.map (.int .i64))

theorem Bytes.step {M M' : Nat → Prop} {w w' : World} {v : Value} {xs : List Int} (h : Bytes w M v xs) (hs : Step M w M' w') : Bytes w' M' v xs := Reads.step h hs
theorem Ints.step {M M' : Nat → Prop} {w w' : World} {v : Value} {xs : List Int} (h : Ints w M v xs) (hs : Step M w M' w') : Ints w' M' v xs := Reads.step h hs

theorem cell_alloc {w : World} {a : Addr} {v : Value} (h : w.cell? a = some v) (o : Obj) : (w.alloc o).cell? a = some v := by
  rw [World.cell?_of_block (Below.heap_alloc w o a.block (World.block_lt_of_cell? w a h))]; exact h

theorem ownsRow_le {w : World} {base base' size n : Nat} {e : TypeId} {v : Value} {xs : List Value} (h : w.ownsRow base e size v n xs) (hb : base' ≤ base) : w.ownsRow base' e size v n xs :=
  ⟨h.1, h.2.imp id fun ⟨g, cap, cur, hv, hg, r⟩ => ⟨g, cap, cur, hv, Nat.le_trans hb hg, r⟩⟩

/-- The shape of an owned row's value, and its cells. -/
theorem ownsRow_shape {w : World} {base size n : Nat} {e : TypeId} {v : Value} {xs : List Value} (h : w.ownsRow base e size v n xs) :
    ∃ ao cap, v = .slice ao n cap ∧ n ≤ cap ∧ cap ≤ maxLen ∧ (ao = none → n = 0 ∧ cap = 0) ∧ (∀ ad, ao = some ad → ad.off = 0 ∧ ad.spot = none ∧ v.ownBlock = some ad.block ∧ ∀ j u, xs[j]? = some u → w.cell? (ad.add j) = some u) := by
  rcases h.2 with ⟨rfl, h0⟩ | ⟨g, cap, cur, rfl, hb, hg, hn, hm, hs, ht⟩
  · exact ⟨none, 0, by rw [h0], by omega, by simp [maxLen], fun _ => ⟨h0, rfl⟩, fun ad h => by cases h⟩
  · exact ⟨some ⟨g, 0, none⟩, cap, rfl, hn, hm, (fun h => by cases h), fun ad ha => by cases ha; exact ⟨rfl, rfl, rfl, h.cells rfl⟩⟩

theorem cell_below {a b : World} (hb : Below a.heap.size a b) {p : Addr} {v : Value} (h : a.cell? p = some v) : b.cell? p = some v :=
  (hb.cell (World.block_lt_of_cell? a p h)).trans h
theorem heap_below {a b : World} (hb : Below a.heap.size a b) {g : Nat} {o : Obj} (h : a.heap[g]? = some o) : b.heap[g]? = some o :=
  (hb.block g (by rw [Array.getElem?_eq_some_iff] at h; exact h.1)).trans h
theorem ownsRow_below {a b : World} (hb : Below a.heap.size a b) {base e size n : Nat} {v : Value} {xs : List Value} (h : a.ownsRow base e size v n xs) : b.ownsRow base e size v n xs := by
  refine ⟨h.1, ?_⟩
  rcases h.2 with hn | ⟨g, cap, cur, rfl, hbase, hgg, rest⟩
  · exact .inl hn
  · exact .inr ⟨g, cap, cur, rfl, hbase, heap_below hb hgg, rest⟩

/-- 'alloc' of a type of many cells: its zero value stays behind a name. -/
theorem wpList_alloc_z {P : Program} {w : World} {ops : Array Oper} {rest : List Oper} {o : Oper} {a : Act} {Q : Exit → Act → World → Prop} (hgd : o.guard = none) (ty : TypeId) (ho : o.op = .alloc ty)
    (Z : Array Value) (hz : ∀ w, (zeroValue ty).run P w = .ok (.agg Z) w)
    (h : wpList P ops Q rest (a.put o.dst (.pointer (some ⟨w.heap.size, 0, none⟩))) (w.alloc (.cells Z ty))) : wpList P ops Q (o :: rest) a w := by
  refine wpList_plain hgd fun K hK => ?_
  unfold Oper.wp
  simp [execOp, ho, Instr.alloc, hz, newVar, Value.cells, Result.andThen]
  exact hK _ _ h

/-- A whole value into the block that was made last. -/
theorem wpList_store_last {P : Program} {w : World} {ops : Array Oper} {rest : List Oper} {o : Oper} {a : Act} {Q : Exit → Act → World → Prop} (hgd : o.guard = none) (ty : TypeId) (x y : Operand) (ho : o.op = .store ty x y)
    (c c' : Array Value) (hx : a.eval x = .pointer (some ⟨w.heap.size, 0, none⟩)) (hy : a.eval y = .agg c') (hi : (P.info? ty).map (·.size) = some c'.size) (hc : c.size = c'.size) (h1 : ∀ v ∈ c'.toList, v.oneCell' = true)
    (h : wpList P ops Q rest (a.put o.dst undef) (w.alloc (.cells c' ty))) : wpList P ops Q (o :: rest) a (w.alloc (.cells c ty)) := by
  refine wpList_plain hgd fun K hK => ?_
  have h1' : c'.all (·.oneCell') = true := Array.all_eq_true_iff_forall_mem.2 (fun v hv => h1 v (by simpa using hv))
  unfold Oper.wp execOp
  simp only [ho, hx, hy, Sem.run_bind, run_storeAt_new w ty c c' hi hc h1']
  exact hK _ _ h

/-- 'copy' into a row that is known whole. -/
theorem wpList_copy_to {P : Program} {w : World} {ops : Array Oper} {rest : List Oper} {o : Oper} {a : Act} {Q : Exit → Act → World → Prop} (hgd : o.guard = none) (d s : Operand) (dT sT : TypeId)
    (ho : o.op = .call { callee := .builtin .copy, args := #[d, s], argTypes := #[dT, sT] }) (elem : TypeId) (hu : P.underlying dT = some (.slice elem)) (hsz : (P.info? elem).map (·.size) = some 1)
    (g off m c : Nat) (hd : a.eval d = .slice (some ⟨g, off, none⟩) m c) (ad : Addr) (m' c' : Nat) (hs : a.eval s = .slice (some ad) m' c')
    (cur : List Value) (t : TypeId) (hg : w.heap[g]? = some (.cells cur.toArray t (0, 0))) (cs : List Value) (hn : cs.length = Nat.min m' m)
    (hsrc : ∀ j v, cs[j]? = some v → w.cell? (ad.add j) = some v) (hfit : off + cs.length ≤ cur.length) (h1 : ∀ v ∈ cs, v.oneCell' = true)
    (h : ∀ w', Hid (w'.heap[g]? = some (.cells (splice cur off cs).toArray t (0, 0))) → Hid (w.grownBy w' (some g)) → Hid (w'.heap.size = w.heap.size) → wpList P ops Q rest (a.put o.dst (goInt cs.length)) w') :
    wpList P ops Q (o :: rest) a w := by
  refine wpList_copy_own hgd d s dT sT ho elem hu hsz g off m c ad m' c' hd hs cur.toArray t hg cs hn hsrc (by simpa using hfit) h1 ?_
  refine h _ (show _ = _ by simpa [splice] using setRow_heap w g _ _ t _ hg) ⟨rfl, rfl, rfl, by simp, fun k _ hk => setRow_other w g k _ (by rintro rfl; exact hk rfl)⟩ (by show _ = _; simp)

theorem splice_all {α : Type} (L cs : List α) (h : cs.length = L.length) : splice L 0 cs = cs := by
  simp [splice, h]

theorem ownsRow_full {w : World} {base e g n : Nat} {xs : List Value} (h : w.ownsRow base e 1 (.slice (some ⟨g, 0, none⟩) n n) n xs) : w.heap[g]? = some (.cells xs.toArray e (0, 0)) := by
  rcases h.2 with ⟨h', _⟩ | ⟨g', cap', cur, h', _, hg, _, _, hs, ht⟩
  · cases h'
  · injection h' with h1 h2 h3
    simp only [Option.some.injEq, Addr.mk.injEq, and_true] at h1
    subst h1; subst h3
    rw [hg, ← ht, List.take_of_length_le (by simp [hs])]

theorem grown_trans {a b c : World} {row : Option Nat} (h : a.grownBy b row) (k : b.grownBy c row) : a.grownBy c row :=
  ⟨k.os.trans h.os, k.tape.trans h.tape, k.output.trans h.output, Nat.le_trans h.size k.size, fun i hi hr => (k.block i (Nat.lt_of_lt_of_le hi h.size) hr).trans (h.block i hi hr)⟩
theorem grown_alloc {a b : World} {row : Option Nat} (h : a.grownBy b row) (o : Obj) : a.grownBy (b.alloc o) row := grown_trans h (World.grownBy_alloc b o row)
theorem grown_drew {a b : World} {row : Option Nat} (h : a.grownBy b row) : a.grownBy b.drew row := ⟨h.os, h.tape, h.output, h.size, h.block⟩
theorem Step.of_grown {F : Nat → Prop} {w w' : World} {row : Option Nat} (h : w.grownBy w' row) (hr : ∀ k, row = some k → F k) : Step F w F w' :=
  ⟨h.os, h.tape, h.output, h.size, fun k hk hf => h.block k hk (fun e => hf (hr k e.symm)), fun _ h => .inl h⟩

/-- A region that draws its order: all but its tail only reads. -/
theorem wp_region_tail {P : Program} {id : Nat} {Q : Exit → Act → World → Prop} {a : Act} {w : World} {l : List Oper} (n : Nat) (hm : P.follows .mixedOrders = true) (hB : Region.lexTailB .any l.toArray n = true)
    (h : wpStill P l.toArray w.drew (fun a' => wpList P l.toArray Q (l.drop n) a' w.drew) (l.take n) a) : (Code.region id l.toArray true).wp P Q a w :=
  wp_region_still_tail n hm hB h

/-- One operation of such a region that calls. -/
theorem still_enter {P : Program} {w : World} {f : FuncId} {args : Array Value} {v : Value} (h : Calls P f args w fun e w' => e = .returned v ∧ w = w') : Calls P f args w fun e w' => e = .returned v ∧ w' = w :=
  h.mono fun _ _ ⟨h1, h2⟩ => ⟨h1, h2.symm⟩

/-- A load of many cells inside a region that draws its order. -/
theorem wpStill_load {P : Program} {ops : Array Oper} {w : World} {Q : Act → Prop} {a : Act} {rest : List Oper} {o : Oper} (hgd : o.guard = none) (ty : TypeId) (x : Operand) (ho : o.op = .load ty x)
    (b off : Nat) (hx : a.eval x = .pointer (some ⟨b, off, none⟩)) (cs : List Value) (d : TypeDesc) (hc : w.rangeAt b off cs) (hu : P.underlying ty = some d) (hd : d.isRow = true) (hi : (P.info? ty).map (·.size) = some cs.length)
    (h : wpStill P ops w Q rest (a.put o.dst (.agg cs.toArray))) : wpStill P ops w Q (o :: rest) a := by
  simp only [wpStill]
  rw [if_pos (by simp [Region.wanted, hgd])]
  unfold Oper.still execOp
  simp only [ho, hx, Instr.loadAt, Instr.sureAddr, Sem.run_bind, Sem.run_pure, Result.andThen_ok, run_loadVar_mid w b off ty cs d hc hu hd hi]
  exact ⟨rfl, h⟩

/-- 'append(xs, v)' lays v in a row of its own. -/
theorem wpList_buildSlice_one {P : Program} {ops : Array Oper} {rest : List Oper} {o : Oper} {a : Act} {w : World} {Q : Exit → Act → World → Prop} (hg : o.guard = none) (t e : TypeId) (x : Operand) (ho : o.op = .buildSlice t 1 #[(0, x)])
    (ie : TypeInfo) (z : Value) (size : Nat) (cs : Array Value) (hx : a.eval x = .agg cs) (hu : P.underlying t = some (.slice e)) (hie : P.info? e = some ie) (hz : ie.zero = some z) (hs : ie.size = size) (hc : cs.size = size) (h0 : 0 < size) (h1 : size ≤ 16777216)
    (h : wpList P ops Q rest (a.put o.dst (.slice (some ⟨w.heap.size, 0, none⟩) 1 1)) (w.alloc (.cells cs e))) : wpList P ops Q (o :: rest) a w := by
  subst hs
  refine wpList_buildSlice hg t e 1 #[(0, x)] ho cs ie z hu hie hz (by omega) (by omega) ?_ h
  have := Great.fill_whole (s := ie.size) h0 [a.eval x] ((Array.range (1 * ie.size)).map (z.cells[· % z.cells.size]!)) (by simp [hx, Value.cells, hc]) (by simp)
  simpa [hx, Value.cells] using this

/-- A struct literal that names its first field. -/
theorem wpList_build_one {P : Program} {ops : Array Oper} {rest : List Oper} {o : Oper} {a : Act} {w : World} {Q : Exit → Act → World → Prop} (hg : o.guard = none) (t : TypeId) (x : Operand) (ho : o.op = .build t #[(0, x)])
    (v : Value) (cells : Array Value) (hx : a.eval x = v) (hf : P.built t [(0, v)] = some cells) (h : wpList P ops Q rest (a.put o.dst (.agg cells)) w) : wpList P ops Q (o :: rest) a w :=
  wpList_buildTo hg t #[(0, x)] ho o.dst rfl cells (by simpa [hx] using hf) h

end Go.Proofs.Ythnolhcknhhipaa
