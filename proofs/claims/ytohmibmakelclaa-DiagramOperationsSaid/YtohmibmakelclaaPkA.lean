/-
  Small words on memory: what a call that may write a known set of blocks does to the world ('Step'), and slices of numbers that can be read.
  No condition.
-/
import Derived.WalkKit
import Derived.WalkSpells
import Derived.WalkLawsBesides
import Derived.ProofKit
import Derived.OpenShut
import Derived.Handy
import Derived.Lib.Hide
import Derived.Deep.LoopGhost
import Derived.Deep.RegionWith
import Derived.Deep.QuietTactic
import Derived.BigQuiet
import Derived.Laws.CopyOwn
import Derived.Deep.WholeRow
import Derived.Deep.MidRow
import Derived.StillTailTactics
import Derived.Great.BuildSlice
import Derived.Maps.OwnSet
import Derived.Maps.OwnOps
import Derived.Maps.Views
import Derived.DeepKeys4
import Derived.Test.YtohmibmakelclaaChecked
import Derived.Test.YtohmibmakelclaaRows
namespace Go.Proofs.Ytohmibmakelclaa
set_option linter.unusedVariables false
set_option linter.unusedSimpArgs false
open Go.RowKit Go.Great

/-- From w to w' nothing that was there has turned but blocks of M; the blocks of M' are blocks of M or new ones. -/
structure Step (M : Nat → Prop) (w : World) (M' : Nat → Prop) (w' : World) : Prop where
  os : w'.os = w.os
  tape : w'.tape = w.tape
  output : w'.output = w.output
  size : w.heap.size ≤ w'.heap.size
  block : ∀ k, k < w.heap.size → ¬ M k → w'.heap[k]? = w.heap[k]?
  grow : ∀ k, M' k → M k ∨ w.heap.size ≤ k

def NoB : Nat → Prop := fun _ => False

theorem Step.refl (M : Nat → Prop) (w : World) : Step M w M w := ⟨rfl, rfl, rfl, Nat.le_refl _, fun _ _ _ => rfl, fun _ h => .inl h⟩

theorem Step.trans {M0 M1 M2 : Nat → Prop} {a b c : World} (h : Step M0 a M1 b) (k : Step M1 b M2 c) : Step M0 a M2 c :=
  ⟨k.os.trans h.os, k.tape.trans h.tape, k.output.trans h.output, Nat.le_trans h.size k.size,
   fun i hi hm => (k.block i (Nat.lt_of_lt_of_le hi h.size) (fun hm1 => (h.grow i hm1).elim hm (fun hle => by omega))).trans (h.block i hi hm),
   fun i hi => (k.grow i hi).elim (h.grow i) (fun hle => .inr (Nat.le_trans h.size hle))⟩

/-- A call that may write less, and holds less behind it. -/
theorem Step.wide {F F' M : Nat → Prop} {w w' : World} (h : Step F w F' w') (hF : ∀ k, F k → M k) : Step M w M w' :=
  ⟨h.os, h.tape, h.output, h.size, fun k hk hm => h.block k hk (fun hf => hm (hF k hf)), fun _ hk => .inl hk⟩

theorem Step.to {F F' M M' : Nat → Prop} {w w' : World} (h : Step F w F' w') (hF : ∀ k, F k → M k) (hM : ∀ k, M' k → M k ∨ w.heap.size ≤ k) : Step M w M' w' :=
  ⟨h.os, h.tape, h.output, h.size, fun k hk hm => h.block k hk (fun hf => hm (hF k hf)), hM⟩

theorem Step.of_below {w w' : World} (h : Below w.heap.size w w') (M : Nat → Prop) : Step M w M w' :=
  ⟨h.os, h.tape, h.output, h.size, fun k hk _ => h.block k hk, fun _ hk => .inl hk⟩

theorem Step.below {M' : Nat → Prop} {w w' : World} (h : Step NoB w M' w') : Below w.heap.size w w' :=
  ⟨h.os, h.tape, h.output, h.size, fun k hk => h.block k hk (fun hf => hf)⟩

theorem Step.belowB {M M' : Nat → Prop} {w w' : World} {B : Nat} (h : Step M w M' w') (hB : B ≤ w.heap.size) (hM : ∀ k, M k → B ≤ k) : Below B w w' :=
  ⟨h.os, h.tape, h.output, h.size, fun k hk => h.block k (by omega) (fun hf => by have := hM k hf; omega)⟩

theorem Step.drew {M M' : Nat → Prop} {a w : World} (h : Step M a M' w) : Step M a M' w.drew := ⟨h.os, h.tape, h.output, h.size, h.block, h.grow⟩

theorem Step.drewN {M M' : Nat → Prop} {a w : World} (h : Step M a M' w) (n : Nat) : Step M a M' (w.drewN n) := by
  induction n with
  | zero => exact h
  | succ n ih => exact ih.drew

theorem Step.alloc {M M' : Nat → Prop} {a w : World} (h : Step M a M' w) (o : Obj) : Step M a M' (w.alloc o) :=
  h.trans ⟨rfl, rfl, rfl, by simp, fun k hk _ => Below.heap_alloc _ _ _ hk, fun _ hk => .inl hk⟩

theorem Step.setCell {M M' : Nat → Prop} {a w : World} (h : Step M a M' w) {p : Addr} (hp : M p.block ∨ a.heap.size ≤ p.block) (u : Value) : Step M a M' (w.setCell p u) :=
  ⟨h.os, h.tape, h.output, by have := h.size; simpa [World.setCell] using this, fun k hk hm => by
    rw [Below.heap_setCell _ _ _ _ (by rintro rfl; rcases hp with hp | hp; exact hm hp; omega)]; exact h.block k hk hm, h.grow⟩

/-- Behind an append or a make. -/
theorem Step.grown {M M' : Nat → Prop} {a w w' : World} {row : Option Nat} (h : Step M a M' w) (hg : w.grownBy w' row) (hr : ∀ k, row = some k → M k ∨ a.heap.size ≤ k) : Step M a M' w' :=
  ⟨hg.os.trans h.os, hg.tape.trans h.tape, hg.output.trans h.output, Nat.le_trans h.size hg.size, fun k hk hm => by
    rw [hg.block k (Nat.lt_of_lt_of_le hk h.size) (fun e => (hr k e.symm).elim hm (fun h => by omega))]; exact h.block k hk hm, h.grow⟩

theorem Step.cell {M M' : Nat → Prop} {w w' : World} (h : Step M w M' w') {p : Addr} (hp : ¬ M p.block) {v : Value} (hv : w.cell? p = some v) : w'.cell? p = some v := by
  have hb : p.block < w.heap.size := World.block_lt_of_cell? w p hv
  rw [World.cell?_of_block (h.block p.block hb hp)]; exact hv

theorem Step.away {M M' : Nat → Prop} {w w' : World} (h : Step M w M' w') {b : Nat} (hb : b < w.heap.size) (hm : ¬ M b) : ¬ M' b := fun hm' => (h.grow b hm').elim hm (fun hle => by omega)

/-- The slice v can be read: n elements, the cells of which are xs; its block is none of M. -/
def Reads (w : World) (M : Nat → Prop) (v : Value) (n : Nat) (xs : List Value) : Prop :=
  ∃ ao cap, v = .slice ao n cap ∧ n ≤ cap ∧ cap ≤ maxLen ∧ (ao = none → n = 0 ∧ cap = 0) ∧ (xs = [] ∨ ∃ b off, ao = some ⟨b, off, none⟩ ∧ b < w.heap.size ∧ ¬ M b ∧ ∀ j u, xs[j]? = some u → w.cell? ⟨b, off + j, none⟩ = some u)

theorem Reads.step {M M' : Nat → Prop} {w w' : World} {v : Value} {n : Nat} {xs : List Value} (h : Reads w M v n xs) (hs : Step M w M' w') : Reads w' M' v n xs := by
  obtain ⟨ao, cap, hv, hc, hm, h0, hx⟩ := h
  refine ⟨ao, cap, hv, hc, hm, h0, hx.imp id ?_⟩
  rintro ⟨b, off, ha, hb, hmb, hcell⟩
  exact ⟨b, off, ha, Nat.lt_of_lt_of_le hb hs.size, hs.away hb hmb, fun j u hu => hs.cell hmb (hcell j u hu)⟩

theorem Reads.wide {M M' : Nat → Prop} {w : World} {v : Value} {n : Nat} {xs : List Value} (h : Reads w M v n xs) (hM : ∀ k, k < w.heap.size → M' k → M k) : Reads w M' v n xs := by
  obtain ⟨ao, cap, hv, hc, hm, h0, hx⟩ := h
  refine ⟨ao, cap, hv, hc, hm, h0, hx.imp id ?_⟩
  rintro ⟨b, off, ha, hb, hmb, hcell⟩
  exact ⟨b, off, ha, hb, fun h => hmb (hM b hb h), hcell⟩

/-- A slice of bytes, of whole numbers. -/
def Bytes (w : World) (M : Nat → Prop) (v : Value) (xs : List Int) : Prop := Reads w M v xs.length (xs.map (.int .u8))
def Ints (w : World) (M : Nat → Prop) (v : Value) (xs : List Int) : Prop := Reads w M v xs.length (xs.map (.int .i64))

theorem Bytes.step {M M' : Nat → Prop} {w w' : World} {v : Value} {xs : List Int} (h : Bytes w M v xs) (hs : Step M w M' w') : Bytes w' M' v xs := Reads.step h hs
theorem Ints.step {M M' : Nat → Prop} {w w' : World} {v : Value} {xs : List Int} (h : Ints w M v xs) (hs : Step M w M' w') : Ints w' M' v xs := Reads.step h hs

theorem cell_alloc {w : World} {a : Addr} {v : Value} (h : w.cell? a = some v) (o : Obj) : (w.alloc o).cell? a = some v := by
  rw [World.cell?_of_block (Below.heap_alloc w o a.block (World.block_lt_of_cell? w a h))]; exact h

theorem ownsRow_le {w : World} {base base' size n : Nat} {e : TypeId} {v : Value} {xs : List Value} (h : w.ownsRow base e size v n xs) (hb : base' ≤ base) : w.ownsRow base' e size v n xs :=
  ⟨h.1, h.2.imp id fun ⟨g, cap, cur, hv, hg, r⟩ => ⟨g, cap, cur, hv, Nat.le_trans hb hg, r⟩⟩

/-- The shape of an owned row's value, and its cells. -/
theorem ownsRow_shape {w : World} {base size n : Nat} {e : TypeId} {v : Value} {xs : List Value} (h : w.ownsRow base e size v n xs) :
    ∃ ao cap, v = .slice ao n cap ∧ n ≤ cap ∧ cap ≤ maxLen ∧ (ao = none → n = 0 ∧ cap = 0) ∧ (∀ ad, ao = some ad → ad.off = 0 ∧ ad.spot = none ∧ v.ownBlock = some ad.block ∧ ∀ j u, xs[j]? = some u → w.cell? (ad.add j) = some u) := by
  rcases h.2 with ⟨rfl, h0⟩ | ⟨g, cap, cur, rfl, hb, hg, hn, hm, hs, ht⟩
  · exact ⟨none, 0, by rw [h0], by omega, by simp [maxLen], fun _ => ⟨h0, rfl⟩, fun ad h => by cases h⟩
  · exact ⟨some ⟨g, 0, none⟩, cap, rfl, hn, hm, (fun h => by cases h), fun ad ha => by cases ha; exact ⟨rfl, rfl, rfl, h.cells rfl⟩⟩

theorem cell_below {a b : World} (hb : Below a.heap.size a b) {p : Addr} {v : Value} (h : a.cell? p = some v) : b.cell? p = some v :=
  (hb.cell (World.block_lt_of_cell? a p h)).trans h
theorem heap_below {a b : World} (hb : Below a.heap.size a b) {g : Nat} {o : Obj} (h : a.heap[g]? = some o) : b.heap[g]? = some o :=
  (hb.block g (by rw [Array.getElem?_eq_some_iff] at h; exact h.1)).trans h
theorem ownsRow_below {a b : World} (hb : Below a.heap.size a b) {base e size n : Nat} {v : Value} {xs : List Value} (h : a.ownsRow base e size v n xs) : b.ownsRow base e size v n xs := by
  refine ⟨h.1, ?_⟩
  rcases h.2 with hn | ⟨g, cap, cur, rfl, hbase, hgg, rest⟩
  · exact .inl hn
  · exact .inr ⟨g, cap, cur, rfl, hbase, heap_below hb hgg, rest⟩

/-- 'alloc' of a type of many cells: its zero value stays behind a name. -/
theorem wpList_alloc_z {P : Program} {w : World} {ops : Array Oper} {rest : List Oper} {o : Oper} {a : Act} {Q : Exit → Act → World → Prop} (hgd : o.guard = none) (ty : TypeId) (ho : o.op = .alloc ty)
    (Z : Array Value) (hz : ∀ w, (zeroValue ty).run P w = .ok (.agg Z) w)
    (h : wpList P ops Q rest (a.put o.dst (.pointer (some ⟨w.heap.size, 0, none⟩))) (w.alloc (.cells Z ty))) : wpList P ops Q (o :: rest) a w := by
  refine wpList_plain hgd fun K hK => ?_
  unfold Oper.wp
  simp [execOp, ho, Instr.alloc, hz, newVar, Value.cells, Result.andThen]
  exact hK _ _ h

/-- A whole value into the block that was made last. -/
theorem wpList_store_last {P : Program} {w : World} {ops : Array Oper} {rest : List Oper} {o : Oper} {a : Act} {Q : Exit → Act → World → Prop} (hgd : o.guard = none) (ty : TypeId) (x y : Operand) (ho : o.op = .store ty x y)
    (c c' : Array Value) (hx : a.eval x = .pointer (some ⟨w.heap.size, 0, none⟩)) (hy : a.eval y = .agg c') (hi : (P.info? ty).map (·.size) = some c'.size) (hc : c.size = c'.size) (h1 : ∀ v ∈ c'.toList, v.oneCell' = true)
    (h : wpList P ops Q rest (a.put o.dst undef) (w.alloc (.cells c' ty))) : wpList P ops Q (o :: rest) a (w.alloc (.cells c ty)) := by
  refine wpList_plain hgd fun K hK => ?_
  have h1' : c'.all (·.oneCell') = true := Array.all_eq_true_iff_forall_mem.2 (fun v hv => h1 v (by simpa using hv))
  unfold Oper.wp execOp
  simp only [ho, hx, hy, Sem.run_bind, run_storeAt_new w ty c c' hi hc h1']
  exact hK _ _ h

/-- 'copy' into a row that is known whole. -/
theorem wpList_copy_to {P : Program} {w : World} {ops : Array Oper} {rest : List Oper} {o : Oper} {a : Act} {Q : Exit → Act → World → Prop} (hgd : o.guard = none) (d s : Operand) (dT sT : TypeId)
    (ho : o.op = .call { callee := .builtin .copy, args := #[d, s], argTypes := #[dT, sT] }) (elem : TypeId) (hu : P.underlying dT = some (.slice elem)) (hsz : (P.info? elem).map (·.size) = some 1)
    (g off m c : Nat) (hd : a.eval d = .slice (some ⟨g, off, none⟩) m c) (ad : Addr) (m' c' : Nat) (hs : a.eval s = .slice (some ad) m' c')
    (cur : List Value) (t : TypeId) (hg : w.heap[g]? = some (.cells cur.toArray t (0, 0))) (cs : List Value) (hn : cs.length = Nat.min m' m)
    (hsrc : ∀ j v, cs[j]? = some v → w.cell? (ad.add j) = some v) (hfit : off + cs.length ≤ cur.length) (h1 : ∀ v ∈ cs, v.oneCell' = true)
    (h : ∀ w', Hid (w'.heap[g]? = some (.cells (splice cur off cs).toArray t (0, 0))) → Hid (w.grownBy w' (some g)) → Hid (w'.heap.size = w.heap.size) → wpList P ops Q rest (a.put o.dst (goInt cs.length)) w') :
    wpList P ops Q (o :: rest) a w := by
  refine wpList_copy_own hgd d s dT sT ho elem hu hsz g off m c ad m' c' hd hs cur.toArray t hg cs hn hsrc (by simpa using hfit) h1 ?_
  refine h _ (show _ = _ by simpa [splice] using setRow_heap w g _ _ t _ hg) ⟨rfl, rfl, rfl, by simp, fun k _ hk => setRow_other w g k _ (by rintro rfl; exact hk rfl)⟩ (by show _ = _; simp)

theorem splice_all {α : Type} (L cs : List α) (h : cs.length = L.length) : splice L 0 cs = cs := by
  simp [splice, h]

theorem ownsRow_full {w : World} {base e g n : Nat} {xs : List Value} (h : w.ownsRow base e 1 (.slice (some ⟨g, 0, none⟩) n n) n xs) : w.heap[g]? = some (.cells xs.toArray e (0, 0)) := by
  rcases h.2 with ⟨h', _⟩ | ⟨g', cap', cur, h', _, hg, _, _, hs, ht⟩
  · cases h'
  · injection h' with h1 h2 h3
    simp only [Option.some.injEq, Addr.mk.injEq, and_true] at h1
    subst h1; subst h3
    rw [hg, ← ht, List.take_of_length_le (by simp [hs])]

theorem grown_trans {a b c : World} {row : Option Nat} (h : a.grownBy b row) (k : b.grownBy c row) : a.grownBy c row :=
  ⟨k.os.trans h.os, k.tape.trans h.tape, k.output.trans h.output, Nat.le_trans h.size k.size, fun i hi hr => (k.block i (Nat.lt_of_lt_of_le hi h.size) hr).trans (h.block i hi hr)⟩
theorem grown_alloc {a b : World} {row : Option Nat} (h : a.grownBy b row) (o : Obj) : a.grownBy (b.alloc o) row := grown_trans h (World.grownBy_alloc b o row)
theorem grown_drew {a b : World} {row : Option Nat} (h : a.grownBy b row) : a.grownBy b.drew row := ⟨h.os, h.tape, h.output, h.size, h.block⟩
theorem Step.of_grown {F : Nat → Prop} {w w' : World} {row : Option Nat} (h : w.grownBy w' row) (hr : ∀ k, row = some k → F k) : Step F w F w' :=
  ⟨h.os, h.tape, h.output, h.size, fun k hk hf => h.block k hk (fun e => hf (hr k e.symm)), fun _ h => .inl h⟩

/-- A region that draws its order: all but its tail only reads. -/
theorem wp_region_tail {P : Program} {id : Nat} {Q : Exit → Act → World → Prop} {a : Act} {w : World} {l : List Oper} (n : Nat) (hm : P.follows .mixedOrders = true) (hB : Region.lexTailB .any l.toArray n = true)
    (h : wpStill P l.toArray w.drew (fun a' => wpList P l.toArray Q (l.drop n) a' w.drew) (l.take n) a) : (Code.region id l.toArray true).wp P Q a w :=
  wp_region_still_tail n hm hB h

/-- One operation of such a region that calls. -/
theorem still_enter {P : Program} {w : World} {f : FuncId} {args : Array Value} {v : Value} (h : Calls P f args w fun e w' => e = .returned v ∧ w = w') : Calls P f args w fun e w' => e = .returned v ∧ w' = w :=
  h.mono fun _ _ ⟨h1, h2⟩ => ⟨h1, h2.symm⟩

/-- A load of many cells inside a region that draws its order. -/
theorem wpStill_load {P : Program} {ops : Array Oper} {w : World} {Q : Act → Prop} {a : Act} {rest : List Oper} {o : Oper} (hgd : o.guard = none) (ty : TypeId) (x : Operand) (ho : o.op = .load ty x)
    (b off : Nat) (hx : a.eval x = .pointer (some ⟨b, off, none⟩)) (cs : List Value) (d : TypeDesc) (hc : w.rangeAt b off cs) (hu : P.underlying ty = some d) (hd : d.isRow = true) (hi : (P.info? ty).map (·.size) = some cs.length)
    (h : wpStill P ops w Q rest (a.put o.dst (.agg cs.toArray))) : wpStill P ops w Q (o :: rest) a := by
  simp only [wpStill]
  rw [if_pos (by simp [Region.wanted, hgd])]
  unfold Oper.still execOp
  simp only [ho, hx, Instr.loadAt, Instr.sureAddr, Sem.run_bind, Sem.run_pure, Result.andThen_ok, run_loadVar_mid w b off ty cs d hc hu hd hi]
  exact ⟨rfl, h⟩

/-- 'append(xs, v)' lays v in a row of its own. -/
theorem wpList_buildSlice_one {P : Program} {ops : Array Oper} {rest : List Oper} {o : Oper} {a : Act} {w : World} {Q : Exit → Act → World → Prop} (hg : o.guard = none) (t e : TypeId) (x : Operand) (ho : o.op = .buildSlice t 1 #[(0, x)])
    (ie : TypeInfo) (z : Value) (size : Nat) (cs : Array Value) (hx : a.eval x = .agg cs) (hu : P.underlying t = some (.slice e)) (hie : P.info? e = some ie) (hz : ie.zero = some z) (hs : ie.size = size) (hc : cs.size = size) (h0 : 0 < size) (h1 : size ≤ 16777216)
    (h : wpList P ops Q rest (a.put o.dst (.slice (some ⟨w.heap.size, 0, none⟩) 1 1)) (w.alloc (.cells cs e))) : wpList P ops Q (o :: rest) a w := by
  subst hs
  refine wpList_buildSlice hg t e 1 #[(0, x)] ho cs ie z hu hie hz (by omega) (by omega) ?_ h
  have := Great.fill_whole (s := ie.size) h0 [a.eval x] ((Array.range (1 * ie.size)).map (z.cells[· % z.cells.size]!)) (by simp [hx, Value.cells, hc]) (by simp)
  simpa [hx, Value.cells] using this

/-- A struct literal that names its first field. -/
theorem wpList_build_one {P : Program} {ops : Array Oper} {rest : List Oper} {o : Oper} {a : Act} {w : World} {Q : Exit → Act → World → Prop} (hg : o.guard = none) (t : TypeId) (x : Operand) (ho : o.op = .build t #[(0, x)])
    (v : Value) (cells : Array Value) (hx : a.eval x = v) (hf : P.built t [(0, v)] = some cells) (h : wpList P ops Q rest (a.put o.dst (.agg cells)) w) : wpList P ops Q (o :: rest) a w :=
  wpList_buildTo hg t #[(0, x)] ho o.dst rfl cells (by simpa [hx] using hf) h

end Go.Proofs.Ytohmibmakelclaa

namespace Go.Proofs.Ytohmibmakelclaa
set_option linter.unusedVariables false
set_option linter.unusedSimpArgs false
open Go.RowKit Go.Maps

/-- An element that reads as a truth is that truth. -/
theorem plainElem_bool_inv {P : Program} {e : TypeId} (he : P.underlying e = some .bool) {v : Value} {z : DataW Unit × List MemPlace} (h : plainElem P e v = some z) : ∃ x, v = .bool x ∧ z = (.lit (.bool x), []) := by
  unfold plainElem at h
  rw [he] at h
  cases v <;> simp at h
  exact ⟨_, rfl, h.symm⟩

/-- Block b is a map of at most n entries: at the key kv a it holds the number f a. -/
def IntMap {α : Type} (P : Program) (k e : TypeId) (w : World) (b n : Nat) (kv : α → Value) (f : α → Option Int) : Prop :=
  ∃ D : DataW Unit, w.ownsMap P k (plainElem P e) b n D ∧ ∀ a l, keyOf P k (kv a) = some l → has D l = (f a).isSome ∧ ∀ v, f a = some v → ∀ z, D.atKey l z = .lit (.int .i64 v)

/-- .. the truth f a (false where there is none). -/
def BoolMap {α : Type} (P : Program) (k e : TypeId) (w : World) (b n : Nat) (kv : α → Value) (f : α → Bool) : Prop :=
  ∃ D : DataW Unit, w.ownsMap P k (plainElem P e) b n D ∧ ∀ a l, keyOf P k (kv a) = some l → D.atKey l (.lit (.bool false)) = .lit (.bool (f a))

section
variable {α : Type} {P : Program} {k e : TypeId} {w : World} {b n : Nat} {kv : α → Value}

theorem IntMap.made (w : World) : IntMap P k e (w.alloc (.map #[] 0)) w.heap.size 0 kv (fun _ => none) :=
  ⟨_, World.ownsMap_made w P k _, fun a l hl => ⟨rfl, fun v hv => by cases hv⟩⟩
theorem BoolMap.made (w : World) : BoolMap P k e (w.alloc (.map #[] 0)) w.heap.size 0 kv (fun _ => false) :=
  ⟨_, World.ownsMap_made w P k _, fun a l hl => rfl⟩

theorem IntMap.block {w' : World} {f : α → Option Int} (h : IntMap P k e w b n kv f) (hb : w'.heap[b]? = w.heap[b]?) : IntMap P k e w' b n kv f := by
  obtain ⟨D, ⟨es, clock, h1, h2⟩, h3⟩ := h
  exact ⟨D, ⟨es, clock, hb.trans h1, h2⟩, h3⟩
theorem BoolMap.block {w' : World} {f : α → Bool} (h : BoolMap P k e w b n kv f) (hb : w'.heap[b]? = w.heap[b]?) : BoolMap P k e w' b n kv f := by
  obtain ⟨D, ⟨es, clock, h1, h2⟩, h3⟩ := h
  exact ⟨D, ⟨es, clock, hb.trans h1, h2⟩, h3⟩
theorem IntMap.lt {f : α → Option Int} (h : IntMap P k e w b n kv f) : b < w.heap.size := by obtain ⟨D, h1, -⟩ := h; exact h1.lt
theorem BoolMap.lt {f : α → Bool} (h : BoolMap P k e w b n kv f) : b < w.heap.size := by obtain ⟨D, h1, -⟩ := h; exact h1.lt
theorem IntMap.drew {f : α → Option Int} (h : IntMap P k e w b n kv f) : IntMap P k e w.drew b n kv f := h.block rfl
theorem IntMap.step {M M' : Nat → Prop} {w' : World} {f : α → Option Int} (h : IntMap P k e w b n kv f) (hs : Step M w M' w') (hb : ¬ M b) : IntMap P k e w' b n kv f := h.block (hs.block b h.lt hb)
theorem BoolMap.step {M M' : Nat → Prop} {w' : World} {f : α → Bool} (h : BoolMap P k e w b n kv f) (hs : Step M w M' w') (hb : ¬ M b) : BoolMap P k e w' b n kv f := h.block (hs.block b h.lt hb)
theorem IntMap.mono {f : α → Option Int} (h : IntMap P k e w b n kv f) {n' : Nat} (hn : n ≤ n') : IntMap P k e w b n' kv f := by
  obtain ⟨D, h1, h2⟩ := h; exact ⟨D, h1.mono hn, h2⟩
theorem IntMap.congr {f g : α → Option Int} (h : IntMap P k e w b n kv f) (hg : ∀ a, g a = f a) : IntMap P k e w b n kv g := by
  obtain ⟨D, h1, h2⟩ := h; exact ⟨D, h1, fun a l hl => by rw [hg a]; exact h2 a l hl⟩
theorem BoolMap.congr {f g : α → Bool} (h : BoolMap P k e w b n kv f) (hg : ∀ a, g a = f a) : BoolMap P k e w b n kv g := by
  obtain ⟨D, h1, h2⟩ := h; exact ⟨D, h1, fun a l hl => by rw [hg a]; exact h2 a l hl⟩
/-- A map and a row of cells are two blocks. -/
theorem IntMap.ne {f : α → Option Int} (h : IntMap P k e w b n kv f) {g : Nat} {cs : Array Value} {t : TypeId} (hg : w.heap[g]? = some (.cells cs t (0, 0))) : b ≠ g := by
  rintro rfl
  obtain ⟨D, ⟨es, clock, h1, -⟩, -⟩ := h
  rw [h1] at hg; cases hg
theorem BoolMap.ne {f : α → Bool} (h : BoolMap P k e w b n kv f) {g : Nat} {cs : Array Value} {t : TypeId} (hg : w.heap[g]? = some (.cells cs t (0, 0))) : b ≠ g := by
  rintro rfl
  obtain ⟨D, ⟨es, clock, h1, -⟩, -⟩ := h
  rw [h1] at hg; cases hg

/-- 'v, ok := m[k]'. -/
theorem IntMap.look_ok {t : TypeId} {f : α → Option Int} (h : IntMap P k e w b n kv f) (K : Keyed P k) (ht : P.underlying t = some (.map k e)) (he : P.underlying e = some (.int .i64)) (hz : (zeroValue e).run P w = .ok (.int .i64 0) w)
    (a : α) (hk : ∃ l, keyOf P k (kv a) = some l) : (Instr.lookup t (.map (some b)) (kv a) true).run P w = .ok (.tuple #[.int .i64 ((f a).getD 0), .bool (f a).isSome]) w := by
  obtain ⟨D, h1, h2⟩ := h
  obtain ⟨l, hl⟩ := hk
  obtain ⟨hh, hv⟩ := h2 a l hl
  obtain ⟨v, ps, hrun, hR⟩ := h1.look_ok K ht hz (plainElem_int he (by decide)) hl
  rw [hrun, hh]
  obtain ⟨c, rfl, hc, -⟩ := plainElem_int_inv he hR
  have hc' := congrArg Prod.fst hc
  simp only at hc'
  cases hf : f a with
  | none =>
    rw [hf] at hh
    rw [atKey_of_not_has (by simpa using hh)] at hc'
    injection hc' with h3
    injection h3 with h4 h5
    rw [← h5]; rfl
  | some v =>
    rw [hv v hf] at hc'
    injection hc' with h3
    injection h3 with h4 h5
    rw [← h5]; rfl

/-- 'm[k]'. -/
theorem IntMap.look {t : TypeId} {f : α → Option Int} (h : IntMap P k e w b n kv f) (K : Keyed P k) (ht : P.underlying t = some (.map k e)) (he : P.underlying e = some (.int .i64)) (hz : (zeroValue e).run P w = .ok (.int .i64 0) w)
    (a : α) (hk : ∃ l, keyOf P k (kv a) = some l) (v : Int) (hf : f a = some v) : (Instr.lookup t (.map (some b)) (kv a) false).run P w = .ok (.int .i64 v) w := by
  obtain ⟨D, h1, h2⟩ := h
  obtain ⟨l, hl⟩ := hk
  obtain ⟨hh, hv⟩ := h2 a l hl
  obtain ⟨c, hrun, hc, -⟩ := h1.lookup_int K ht he hz hl
  rw [hrun]
  rw [hv v hf] at hc
  injection hc with h3
  injection h3 with h4 h5
  rw [← h5]

theorem BoolMap.look {t : TypeId} {f : α → Bool} (h : BoolMap P k e w b n kv f) (K : Keyed P k) (ht : P.underlying t = some (.map k e)) (he : P.underlying e = some .bool) (hz : (zeroValue e).run P w = .ok (.bool false) w)
    (a : α) (hk : ∃ l, keyOf P k (kv a) = some l) : (Instr.lookup t (.map (some b)) (kv a) false).run P w = .ok (.bool (f a)) w := by
  obtain ⟨D, h1, h2⟩ := h
  obtain ⟨l, hl⟩ := hk
  obtain ⟨v, ps, hrun, hR⟩ := h1.lookup K ht hz (plainElem_bool he false) hl
  rw [hrun]
  obtain ⟨c, rfl, hc⟩ := plainElem_bool_inv he hR
  have hc' := congrArg Prod.fst hc
  simp only at hc'
  rw [h2 a l hl] at hc'
  injection hc' with h3
  injection h3 with h4
  rw [h4]

/-- 'm[k] = v'. -/
theorem IntMap.store {t : TypeId} {f : α → Option Int} [DecidableEq α] (h : IntMap P k e w b n kv f) (K : Keyed P k) (ht : P.underlying t = some (.map k e)) (he : P.underlying e = some (.int .i64)) (hn : n < maxLen) (hi : ∀ a a', kv a = kv a' → a = a')
    (a : α) (hk : ∃ l, keyOf P k (kv a) = some l) (v : Int) (hv : (Lit.int .i64 v).wf = true) :
    ∃ w', (Instr.mapUpdate t (.map (some b)) (kv a) (.int .i64 v)).run P w = .ok () w' ∧ IntMap P k e w' b (n + 1) kv (fun x => if x = a then some v else f x) ∧ w.grownBy w' (some b) ∧ w'.heap.size = w.heap.size := by
  obtain ⟨D, h1, h2⟩ := h
  obtain ⟨l, hl⟩ := hk
  obtain ⟨w', hrun, ho, ht'⟩ := h1.store K ht hn hl (plainElem_int he hv)
  refine ⟨w', hrun, ⟨_, ho, fun x lx hx => ?_⟩, ht'.grown, ?_⟩
  · by_cases hxa : x = a
    · subst hxa
      rw [hl] at hx; cases hx
      simp only [if_true]
      refine ⟨by rw [has_put_same h1.isMap (K.key hl)]; rfl, fun u hu z => ?_⟩
      cases hu
      exact atKey_put_same h1.isMap (K.key hl) _ _
    · have hne : lx ≠ l := by
        rintro rfl
        exact hxa (hi _ _ (K.inj hx hl))
      simp only [if_neg hxa]
      obtain ⟨g1, g2⟩ := h2 x lx hx
      exact ⟨by rw [has_put_other hne]; exact g1, fun u hu z => by rw [atKey_put_other hne]; exact g2 u hu z⟩
  · obtain ⟨es, clock, es', clock', hb, rfl⟩ := ht'
    simp [Go.ChangeMaps.setBlock]

theorem BoolMap.store {t : TypeId} {f : α → Bool} [DecidableEq α] (h : BoolMap P k e w b n kv f) (K : Keyed P k) (ht : P.underlying t = some (.map k e)) (he : P.underlying e = some .bool) (hn : n < maxLen) (hi : ∀ a a', kv a = kv a' → a = a')
    (a : α) (hk : ∃ l, keyOf P k (kv a) = some l) (v : Bool) :
    ∃ w', (Instr.mapUpdate t (.map (some b)) (kv a) (.bool v)).run P w = .ok () w' ∧ BoolMap P k e w' b (n + 1) kv (fun x => if x = a then v else f x) ∧ w.grownBy w' (some b) ∧ w'.heap.size = w.heap.size := by
  obtain ⟨D, h1, h2⟩ := h
  obtain ⟨l, hl⟩ := hk
  obtain ⟨w', hrun, ho, ht'⟩ := h1.store K ht hn hl (plainElem_bool he v)
  refine ⟨w', hrun, ⟨_, ho, fun x lx hx => ?_⟩, ht'.grown, ?_⟩
  · by_cases hxa : x = a
    · subst hxa
      rw [hl] at hx; cases hx
      simp only [if_true]
      exact atKey_put_same h1.isMap (K.key hl) _ _
    · have hne : lx ≠ l := by
        rintro rfl
        exact hxa (hi _ _ (K.inj hx hl))
      simp only [if_neg hxa]
      rw [atKey_put_other hne]; exact h2 x lx hx
  · obtain ⟨es, clock, es', clock', hb, rfl⟩ := ht'
    simp [Go.ChangeMaps.setBlock]
end

end Go.Proofs.Ytohmibmakelclaa

namespace Go.Proofs.Ytohmibmakelclaa
set_option linter.unusedVariables false
set_option linter.unusedSimpArgs false

/-- A decision tree. -/
inductive T where
  | leaf (b : Bool)
  | node (v : Nat) (l h : T)
deriving DecidableEq

/-- Whether a configuration is in the tree's set. -/
def T.ev : T → (Nat → Bool) → Bool
  | .leaf b, _ => b
  | .node v l h, c => if c v then h.ev c else l.ev c
/-- The condition that a tree looks at first. -/
def T.lv : T → Nat
  | .leaf _ => 64
  | .node v _ _ => v
/-- Ordered and reduced. -/
def T.Ok : T → Prop
  | .leaf _ => True
  | .node v l h => v < 64 ∧ v < l.lv ∧ v < h.lv ∧ l ≠ h ∧ l.Ok ∧ h.Ok
def T.sz : T → Nat
  | .leaf _ => 1
  | .node _ l h => l.sz + h.sz + 1

theorem T.Ok.lv_le {t : T} (h : t.Ok) : t.lv ≤ 64 := by
  cases t with
  | leaf b => exact Nat.le_refl _
  | node v l r => exact Nat.le_of_lt h.1

def upd (c : Nat → Bool) (v : Nat) (b : Bool) : Nat → Bool := fun i => if i = v then b else c i

theorem T.ev_upd {t : T} (h : t.Ok) (c : Nat → Bool) (v : Nat) (hv : v < t.lv) (b : Bool) : t.ev (upd c v b) = t.ev c := by
  induction t with
  | leaf b => rfl
  | node w l r ihl ihr =>
    obtain ⟨h0, h1, h2, h3, h4, h5⟩ := h
    simp only [T.lv] at hv
    simp only [T.ev]
    rw [ihl h4 (by omega), ihr h5 (by omega)]
    have : upd c v b w = c w := by unfold upd; rw [if_neg (by omega)]
    rw [this]

theorem T.ev_node (v : Nat) (l h : T) (c : Nat → Bool) (b : Bool) (ok : (T.node v l h).Ok) : (T.node v l h).ev (upd c v b) = if b then h.ev c else l.ev c := by
  obtain ⟨h0, h1, h2, h3, h4, h5⟩ := ok
  simp only [T.ev]
  rw [T.ev_upd h4 c v h1, T.ev_upd h5 c v h2]
  simp [upd]

theorem T.same_aux : ∀ (n : Nat) (s t : T), s.sz + t.sz ≤ n → s.Ok → t.Ok → (∀ c, s.ev c = t.ev c) → s = t := by
  intro n
  induction n with
  | zero => intro s t hn; cases s <;> cases t <;> simp [T.sz] at hn <;> omega
  | succ n ih =>
    intro s t hn hs ht he
    have lone : ∀ (v : Nat) (l h u : T), (T.node v l h).Ok → v < u.lv → u.Ok → (∀ c, (T.node v l h).ev c = u.ev c) → l.sz + h.sz ≤ n → False := by
      intro v l h u ok hv hu he hsz
      refine ok.2.2.2.1 (ih l h hsz ok.2.2.2.2.1 ok.2.2.2.2.2 (fun c => ?_))
      have h1 := he (upd c v false)
      have h2 := he (upd c v true)
      rw [T.ev_node _ _ _ _ _ ok, T.ev_upd hu _ _ hv] at h1 h2
      simp at h1 h2
      rw [h1, h2]
    cases s with
    | leaf a =>
      cases t with
      | leaf b =>
        have := he (fun _ => false)
        simp only [T.ev] at this
        rw [this]
      | node v l h => exact (lone v l h (.leaf a) ht ht.1 trivial (fun c => (he c).symm) (by simp only [T.sz] at hn; omega)).elim
    | node v l h =>
      cases t with
      | leaf b => exact (lone v l h (.leaf b) hs hs.1 trivial he (by simp only [T.sz] at hn; omega)).elim
      | node v' l' h' =>
        simp only [T.sz] at hn
        rcases Nat.lt_trichotomy v v' with hv | hv | hv
        · exact (lone v l h (.node v' l' h') hs hv ht he (by omega)).elim
        · subst hv
          have hl : l = l' := ih l l' (by omega) hs.2.2.2.2.1 ht.2.2.2.2.1 (fun c => by
            have := he (upd c v false)
            rw [T.ev_node _ _ _ _ _ hs, T.ev_node _ _ _ _ _ ht] at this; simpa using this)
          have hh : h = h' := ih h h' (by omega) hs.2.2.2.2.2 ht.2.2.2.2.2 (fun c => by
            have := he (upd c v true)
            rw [T.ev_node _ _ _ _ _ hs, T.ev_node _ _ _ _ _ ht] at this; simpa using this)
          rw [hl, hh]
        · exact (lone v' l' h' (.node v l h) ht hv hs (fun c => (he c).symm) (by omega)).elim

/-- Two ordered, reduced trees with the same set are one. -/
theorem T.same {s t : T} (hs : s.Ok) (ht : t.Ok) (he : ∀ c, s.ev c = t.ev c) : s = t := T.same_aux _ s t (Nat.le_refl _) hs ht he

/-- A branch, and a diagram, as data. -/
structure Br where
  v : Int
  l : Int
  h : Int
deriving DecidableEq
structure Dg where
  nodes : List Br
  root : Int
deriving DecidableEq

/-- The trees that a walk leaves, in their order. -/
def T.visit : T → List T → List T
  | .leaf _, s => s
  | .node v l h, s => if T.node v l h ∈ s then s else h.visit (l.visit s) ++ [.node v l h]
/-- A tree's number. -/
def idx (s : List T) : T → Nat
  | .leaf false => 0
  | .leaf true => 1
  | .node v l h => s.idxOf (.node v l h) + 2
def brOf (s : List T) : T → Br
  | .leaf _ => ⟨0, 0, 0⟩
  | .node v l h => ⟨v, idx s l, idx s h⟩
def table (s : List T) : List Br := s.map (brOf s)
/-- The tree's diagram. -/
def T.canon (t : T) : Dg := ⟨table (t.visit []), idx (t.visit []) t⟩

/-- The trees that a table's numbers stand for. -/
def trees (ns : List Br) : List T := ns.foldl (fun acc b => acc ++ [.node b.v.toNat (acc.getD b.l.toNat (.leaf false)) (acc.getD b.h.toNat (.leaf false))]) [.leaf false, .leaf true]
def tr (ns : List Br) (n : Nat) : T := (trees ns).getD n (.leaf false)

theorem snocRec {α : Type} {P : List α → Prop} (h0 : P []) (h1 : ∀ l a, P l → P (l ++ [a])) (l : List α) : P l := by
  have : ∀ n (l : List α), l.length = n → P l := by
    intro n
    induction n with
    | zero => intro l hl; rw [List.length_eq_zero_iff] at hl; rw [hl]; exact h0
    | succ n ih =>
      intro l hl
      have hne : l ≠ [] := by intro h; rw [h] at hl; simp at hl
      rw [← List.dropLast_concat_getLast hne]
      exact h1 _ _ (ih _ (by simp [hl]))
  exact this _ l rfl

theorem trees_snoc (ns : List Br) (b : Br) : trees (ns ++ [b]) = trees ns ++ [.node b.v.toNat (tr ns b.l.toNat) (tr ns b.h.toNat)] := by simp [trees, tr]
theorem trees_length (ns : List Br) : (trees ns).length = ns.length + 2 := by
  induction ns using snocRec with
  | h0 => rfl
  | h1 ns b ih => rw [trees_snoc]; simp [ih]
theorem tr_snoc (ns : List Br) (b : Br) (n : Nat) (h : n < ns.length + 2) : tr (ns ++ [b]) n = tr ns n := by
  unfold tr
  rw [trees_snoc, List.getD_eq_getElem?_getD, List.getD_eq_getElem?_getD, List.getElem?_append_left (by rw [trees_length]; exact h)]
theorem tr_new (ns : List Br) (b : Br) : tr (ns ++ [b]) (ns.length + 2) = .node b.v.toNat (tr ns b.l.toNat) (tr ns b.h.toNat) := by
  unfold tr
  rw [trees_snoc, List.getD_eq_getElem?_getD, List.getElem?_append_right (by rw [trees_length]; exact Nat.le_refl _), trees_length]
  simp [tr]
theorem tr_zero (ns : List Br) : tr ns 0 = .leaf false := by
  induction ns using snocRec with
  | h0 => rfl
  | h1 ns b ih => rw [tr_snoc _ _ _ (by omega)]; exact ih
theorem tr_one (ns : List Br) : tr ns 1 = .leaf true := by
  induction ns using snocRec with
  | h0 => rfl
  | h1 ns b ih => rw [tr_snoc _ _ _ (by omega)]; exact ih

/-- The condition of a number of a table; 64 for a constant. -/
def level (ns : List Br) (n : Int) : Int := if n < 2 then 64 else (ns.getD (n - 2).toNat ⟨0, 0, 0⟩).v
/-- A branch that may follow a table. -/
structure BrOk (ns : List Br) (b : Br) : Prop where
  v0 : 0 ≤ b.v
  v1 : b.v ≤ 63
  l0 : 0 ≤ b.l
  h0 : 0 ≤ b.h
  l1 : b.l ≤ ns.length + 1
  h1 : b.h ≤ ns.length + 1
  ne : b.l ≠ b.h
  fresh : b ∉ ns
  ll : b.v < level ns b.l
  lh : b.v < level ns b.h
inductive Wf : List Br → Prop
  | nil : Wf []
  | snoc {ns : List Br} {b : Br} : Wf ns → BrOk ns b → Wf (ns ++ [b])

theorem Wf.inv {ns : List Br} {b : Br} (h : Wf (ns ++ [b])) : Wf ns ∧ BrOk ns b := by
  generalize e : ns ++ [b] = l at h
  cases h with
  | nil => simp at e
  | snoc h1 h2 =>
    obtain ⟨rfl, e2⟩ := List.append_inj' e rfl
    cases e2
    exact ⟨h1, h2⟩

theorem level_snoc (ns : List Br) (b : Br) (n : Int) (h : n < ns.length + 2) : level (ns ++ [b]) n = level ns n := by
  unfold level
  split
  · rfl
  · rw [List.getD_eq_getElem?_getD, List.getD_eq_getElem?_getD, List.getElem?_append_left (by omega)]

theorem level_new (ns : List Br) (b : Br) : level (ns ++ [b]) (ns.length + 2 : Nat) = b.v := by
  unfold level
  rw [if_neg (by omega), List.getD_eq_getElem?_getD, show ((((ns.length + 2 : Nat) : Int) - 2).toNat) = ns.length by omega]
  simp

/-- What number n of a table stands for. -/
def Stands (ns : List Br) (n : Nat) : Prop := (tr ns n).Ok ∧ ((tr ns n).lv : Int) = level ns n ∧
    (2 ≤ n → ∃ b, ns[n - 2]? = some b ∧ tr ns n = .node b.v.toNat (tr ns b.l.toNat) (tr ns b.h.toNat) ∧ b.l.toNat < n ∧ b.h.toNat < n ∧ 0 ≤ b.l ∧ 0 ≤ b.h ∧ 0 ≤ b.v ∧ b.v ≤ 63 ∧ b.l ≠ b.h ∧ b.v < level ns b.l ∧ b.v < level ns b.h)

theorem Wf.both {ns : List Br} (h : Wf ns) : (∀ n, n < ns.length + 2 → Stands ns n) ∧ (∀ m n, m < ns.length + 2 → n < ns.length + 2 → tr ns m = tr ns n → m = n) := by
  induction h with
  | nil =>
    have small : ∀ n, n < ([] : List Br).length + 2 → n = 0 ∨ n = 1 := by intro n hn; simp at hn; omega
    refine ⟨fun n hn => ?_, fun m n hm hn e => ?_⟩
    · rcases small n hn with rfl | rfl
      · refine ⟨?_, ?_, fun h => by omega⟩
        · rw [tr_zero]; trivial
        · rw [tr_zero]; rfl
      · refine ⟨?_, ?_, fun h => by omega⟩
        · rw [tr_one]; trivial
        · rw [tr_one]; rfl
    · rcases small m hm with rfl | rfl <;> rcases small n hn with rfl | rfl <;> simp [tr_zero, tr_one] at e ⊢
  | @snoc ns b hw hb ih =>
    obtain ⟨ih, inj⟩ := ih
    have old : ∀ n, n < ns.length + 2 → Stands (ns ++ [b]) n := by
      intro n hn
      obtain ⟨h1, h2, h3⟩ := ih n hn
      unfold Stands
      rw [tr_snoc _ _ _ hn, level_snoc _ _ _ (by omega)]
      refine ⟨h1, h2, fun h => ?_⟩
      obtain ⟨x, e, t, l1, l2, p1, p2, p3, p4, p5, p6, p7⟩ := h3 h
      refine ⟨x, by rw [List.getElem?_append_left (by omega)]; exact e, ?_, l1, l2, p1, p2, p3, p4, p5, ?_, ?_⟩
      · rw [tr_snoc _ _ _ (by omega), tr_snoc _ _ _ (by omega)]; exact t
      · rw [level_snoc _ _ _ (by omega)]; exact p6
      · rw [level_snoc _ _ _ (by omega)]; exact p7
    have hl : b.l.toNat < ns.length + 2 := by have := hb.l1; omega
    have hh : b.h.toNat < ns.length + 2 := by have := hb.h1; omega
    have el : ((b.l.toNat : Nat) : Int) = b.l := Int.toNat_of_nonneg hb.l0
    have eh : ((b.h.toNat : Nat) : Int) = b.h := Int.toNat_of_nonneg hb.h0
    obtain ⟨kl, vl, -⟩ := ih _ hl
    obtain ⟨kh, vh, -⟩ := ih _ hh
    rw [el] at vl; rw [eh] at vh
    have g0 := hb.v0; have g1 := hb.v1; have g2 := hb.ll; have g3 := hb.lh
    have new : Stands (ns ++ [b]) (ns.length + 2) := by
      unfold Stands
      rw [tr_new, level_new]
      refine ⟨⟨by omega, by omega, by omega, fun e => ?_, kl, kh⟩, by simp only [T.lv]; omega, fun _ => ⟨b, by simp, ?_, by omega, by omega, hb.l0, hb.h0, g0, g1, hb.ne, ?_, ?_⟩⟩
      · have h1 := inj _ _ hl hh e
        exact hb.ne (by omega)
      · rw [tr_snoc _ _ _ hl, tr_snoc _ _ _ hh]
      · rw [level_snoc _ _ _ (by omega)]; exact g2
      · rw [level_snoc _ _ _ (by omega)]; exact g3
    have alone : ∀ n, n < ns.length + 2 → tr (ns ++ [b]) (ns.length + 2) = tr (ns ++ [b]) n → False := by
      intro n hn e
      rw [tr_new, tr_snoc _ _ _ hn] at e
      have h2 : 2 ≤ n := by
        rcases Nat.lt_or_ge n 2 with h | h
        · have : n = 0 ∨ n = 1 := by omega
          rcases this with rfl | rfl
          · rw [tr_zero] at e; cases e
          · rw [tr_one] at e; cases e
        · exact h
      obtain ⟨-, -, h3⟩ := ih n hn
      obtain ⟨x, ex, t, l1, l2, p1, p2, p3, p4, p5, -, -⟩ := h3 h2
      rw [t] at e
      injection e with e1 e2 e3
      have q2 := inj _ _ hl (by omega) e2
      have q3 := inj _ _ hh (by omega) e3
      have : b = x := by cases b; cases x; simp only [Br.mk.injEq]; simp only at *; omega
      exact hb.fresh (this ▸ List.mem_of_getElem? ex)
    have big : ∀ n, n < (ns ++ [b]).length + 2 → n < ns.length + 2 ∨ n = ns.length + 2 := by intro n hn; simp at hn; omega
    refine ⟨fun n hn => ?_, fun m n hm hn e => ?_⟩
    · rcases big n hn with h | rfl
      · exact old n h
      · exact new
    · rcases big m hm with h | rfl <;> rcases big n hn with h' | rfl
      · rw [tr_snoc _ _ _ h, tr_snoc _ _ _ h'] at e; exact inj _ _ h h' e
      · exact (alone _ h e.symm).elim
      · exact (alone _ h' e).elim
      · rfl

theorem Wf.stands {ns : List Br} (h : Wf ns) {n : Nat} (hn : n < ns.length + 2) : Stands ns n := h.both.1 n hn
theorem Wf.inj {ns : List Br} (h : Wf ns) {m n : Nat} (hm : m < ns.length + 2) (hn : n < ns.length + 2) (e : tr ns m = tr ns n) : m = n := h.both.2 m n hm hn e

/-- A list of trees in which the parts of each stand ahead of it. -/
def Has (s : List T) (t : T) : Prop := ∀ v l h, t = .node v l h → t ∈ s
inductive Cl : List T → Prop
  | nil : Cl []
  | snoc {s : List T} {v : Nat} {l h : T} : Cl s → (T.node v l h).Ok → Has s l → Has s h → T.node v l h ∉ s → Cl (s ++ [.node v l h])

theorem has_leaf (s : List T) (b : Bool) : Has s (.leaf b) := by intro v l h e; cases e
theorem Has.mono {s s' : List T} {t : T} (h : Has s t) (hs : ∀ x ∈ s, x ∈ s') : Has s' t := fun v l r e => hs _ (h v l r e)
theorem has_mem {s : List T} {t : T} (h : t ∈ s) : Has s t := fun _ _ _ _ => h

theorem idx_append {s : List T} {t : T} (h : Has s t) (r : List T) : idx (s ++ r) t = idx s t := by
  cases t with
  | leaf b => cases b <;> rfl
  | node v l x =>
    have hm := h v l x rfl
    simp only [idx]
    rw [List.idxOf_append, if_pos hm]

theorem idx_lt {s : List T} {t : T} (h : Has s t) : idx s t < s.length + 2 := by
  cases t with
  | leaf b => cases b <;> simp [idx]
  | node v l x =>
    have := List.idxOf_lt_length_of_mem (h v l x rfl)
    simp only [idx]; omega

theorem Cl.parts {s : List T} (h : Cl s) : ∀ t ∈ s, ∃ v l r, t = .node v l r ∧ t.Ok ∧ Has s l ∧ Has s r := by
  induction h with
  | nil => intro t ht; cases ht
  | @snoc s v l h hc ok hl hh hn ih =>
    intro t ht
    rcases List.mem_append.1 ht with ht | ht
    · obtain ⟨v', l', r', e, ok', h1, h2⟩ := ih t ht
      exact ⟨v', l', r', e, ok', h1.mono (fun x hx => List.mem_append_left _ hx), h2.mono (fun x hx => List.mem_append_left _ hx)⟩
    · simp only [List.mem_singleton] at ht
      exact ⟨v, l, h, ht, ht ▸ ok, hl.mono (fun x hx => List.mem_append_left _ hx), hh.mono (fun x hx => List.mem_append_left _ hx)⟩

theorem brOf_append {s : List T} (hc : Cl s) {t : T} (h : t ∈ s) (r : List T) : brOf (s ++ r) t = brOf s t := by
  obtain ⟨v, l, x, rfl, -, h1, h2⟩ := hc.parts t h
  simp only [brOf]
  rw [idx_append h1, idx_append h2]

theorem table_snoc {s : List T} (hc : Cl s) {v : Nat} {l h : T} (hl : Has s l) (hh : Has s h) : table (s ++ [.node v l h]) = table s ++ [⟨v, idx s l, idx s h⟩] := by
  unfold table
  rw [List.map_append]
  congr 1
  · exact List.map_congr_left (fun t ht => brOf_append hc ht _)
  · simp only [List.map_cons, List.map_nil, brOf]
    rw [idx_append hl, idx_append hh]

theorem table_length (s : List T) : (table s).length = s.length := by simp [table]

/-- The number of a tree in the table of a closed list. -/
theorem Cl.trees {s : List T} (h : Cl s) : trees (table s) = .leaf false :: .leaf true :: s := by
  induction h with
  | nil => rfl
  | @snoc s v l h hc ok hl hh hn ih =>
    have look : ∀ t, Has s t → tr (table s) (idx s t) = t := by
      intro t ht
      unfold tr
      rw [ih]
      cases t with
      | leaf b => cases b <;> rfl
      | node v l x =>
        have hm := ht v l x rfl
        simp only [idx]
        have := List.idxOf_lt_length_of_mem hm
        simp [List.getD_eq_getElem?_getD, this]
    rw [table_snoc hc hl hh, trees_snoc, ih]
    simp only [Int.toNat_natCast, look l hl, look h hh]
    rfl

theorem Cl.look {s : List T} (h : Cl s) {t : T} (ht : Has s t) : tr (table s) (idx s t) = t := by
  unfold tr
  rw [h.trees]
  cases t with
  | leaf b => cases b <;> rfl
  | node v l x =>
    have hm := ht v l x rfl
    simp only [idx]
    have := List.idxOf_lt_length_of_mem hm
    simp [List.getD_eq_getElem?_getD, this]

theorem Cl.wf {s : List T} (h : Cl s) : Wf (table s) := by
  induction h with
  | nil => exact .nil
  | @snoc s v l h hc ok hl hh hn ih =>
    rw [table_snoc hc hl hh]
    have il := idx_lt hl
    have ih' := idx_lt hh
    have sl := ih.stands (n := idx s l) (by rw [table_length]; exact il)
    have sh := ih.stands (n := idx s h) (by rw [table_length]; exact ih')
    have tl := sl.2.1; have th := sh.2.1
    rw [hc.look hl] at tl; rw [hc.look hh] at th
    obtain ⟨o1, o2, o3, o4, o5, o6⟩ := ok
    refine .snoc ih ⟨by simp, by simp; omega, by simp, by simp, by rw [table_length]; simp; omega, by rw [table_length]; simp; omega, ?_, ?_, by rw [← tl]; simp; omega, by rw [← th]; simp; omega⟩
    · intro e
      have e' : idx s l = idx s h := by simp only at e; omega
      have := hc.look hl
      rw [e', hc.look hh] at this
      exact o4 this.symm
    · intro hm
      obtain ⟨t, ht, e⟩ := List.mem_map.1 hm
      obtain ⟨v', l', r', rfl, ok', h1, h2⟩ := hc.parts t ht
      simp only [brOf, Br.mk.injEq] at e
      obtain ⟨e1, e2, e3⟩ := e
      have e1 : v' = v := by omega
      have e2 : idx s l' = idx s l := by omega
      have e3 : idx s r' = idx s h := by omega
      have q2 : l' = l := by rw [← hc.look h1, e2, hc.look hl]
      have q3 : r' = h := by rw [← hc.look h2, e3, hc.look hh]
      subst e1; subst q2; subst q3
      exact hn ht

theorem T.visit_cl {t : T} (ok : t.Ok) : ∀ {s : List T}, Cl s → Cl (t.visit s) ∧ Has (t.visit s) t ∧ ∃ r, t.visit s = s ++ r := by
  induction t with
  | leaf b => intro s h; exact ⟨h, has_leaf _ _, [], by simp [T.visit]⟩
  | node v l x ihl ihx =>
    intro s hc
    simp only [T.visit]
    split
    · rename_i hm; exact ⟨hc, has_mem hm, [], by simp⟩
    · rename_i hm
      obtain ⟨c1, h1, r1, e1⟩ := ihl ok.2.2.2.2.1 hc
      obtain ⟨c2, h2, r2, e2⟩ := ihx ok.2.2.2.2.2 c1
      have small : ∀ (y : T) (s : List T), T.node v l x ∈ y.visit s → T.node v l x ∈ s ∨ (T.node v l x).sz ≤ y.sz := by
        intro y
        induction y with
        | leaf b => intro s hs; exact .inl hs
        | node v' l' h' i1 i2 =>
          intro s hs
          simp only [T.visit] at hs
          split at hs
          · exact .inl hs
          · rcases List.mem_append.1 hs with hs | hs
            · rcases i2 _ hs with hs | hs
              · rcases i1 _ hs with hs | hs
                · exact .inl hs
                · exact .inr (by simp only [T.sz] at hs ⊢; omega)
              · exact .inr (by simp only [T.sz] at hs ⊢; omega)
            · simp only [List.mem_singleton] at hs
              rw [hs]; exact .inr (Nat.le_refl _)
      have hn : T.node v l x ∉ x.visit (l.visit s) := by
        intro hs
        rcases small _ _ hs with hs | hs
        · rcases small _ _ hs with hs | hs
          · exact hm hs
          · simp only [T.sz] at hs; omega
        · simp only [T.sz] at hs; omega
      refine ⟨.snoc c2 ok (h1.mono (fun y hy => by rw [e2]; exact List.mem_append_left _ hy)) h2 hn, has_mem (by simp), r1 ++ r2 ++ [.node v l x], ?_⟩
      rw [e2, e1]; simp

/-- A valid diagram: the table of an ordered, reduced tree. -/
def Valid (D : Dg) : Prop := ∃ t : T, t.Ok ∧ D = t.canon
/-- The tree of a diagram. -/
def Dg.tree (D : Dg) : T := tr D.nodes D.root.toNat

theorem T.canon_cl {t : T} (ok : t.Ok) : Cl (t.visit []) := (t.visit_cl ok .nil).1
theorem T.canon_wf {t : T} (ok : t.Ok) : Wf t.canon.nodes := (T.canon_cl ok).wf
theorem T.canon_root {t : T} (ok : t.Ok) : 0 ≤ t.canon.root ∧ t.canon.root ≤ t.canon.nodes.length + 1 := by
  have := idx_lt (t.visit_cl ok .nil).2.1
  simp only [T.canon, table_length]
  omega
theorem T.canon_tree {t : T} (ok : t.Ok) : t.canon.tree = t := by
  unfold Dg.tree T.canon
  simp only [Int.toNat_natCast]
  exact (T.canon_cl ok).look (t.visit_cl ok .nil).2.1

/-- What makes a diagram valid, read off its table. -/
theorem valid_iff (D : Dg) : Valid D ↔ Wf D.nodes ∧ 0 ≤ D.root ∧ D.root ≤ D.nodes.length + 1 ∧ D = D.tree.canon := by
  constructor
  · rintro ⟨t, ok, rfl⟩
    exact ⟨T.canon_wf ok, (T.canon_root ok).1, (T.canon_root ok).2, by rw [T.canon_tree ok]⟩
  · rintro ⟨h1, h2, h3, h4⟩
    exact ⟨D.tree, (h1.stands (n := D.root.toNat) (by omega)).1, h4⟩

theorem Valid.ok {D : Dg} (h : Valid D) : D.tree.Ok := by obtain ⟨t, ok, rfl⟩ := h; rw [T.canon_tree ok]; exact ok
theorem Valid.canon {D : Dg} (h : Valid D) : D = D.tree.canon := ((valid_iff D).1 h).2.2.2
/-- Two valid diagrams with the same set are one. -/
theorem Valid.same {D E : Dg} (h : Valid D) (k : Valid E) (he : ∀ c, D.tree.ev c = E.tree.ev c) : D = E := by
  rw [h.canon, k.canon, T.same h.ok k.ok he]

end Go.Proofs.Ytohmibmakelclaa

namespace Go.Proofs.Ytohmibmakelclaa
set_option linter.unusedVariables false
set_option linter.unusedSimpArgs false
open Go.RowKit Go.Maps

/-- A whole number of 64 bits. -/
def I64 (x : Int) : Prop := -9223372036854775808 ≤ x ∧ x ≤ 9223372036854775807
theorem I64.wf {x : Int} (h : I64 x) : (Lit.int .i64 x).wf = true := WalkArith.wf_i64 h

theorem dgLaid : laidOutB Try.prog = true := by kernel_rfl
theorem typesPos : 2 ≤ Try.prog.types.size := of_decide_eq_true (by kernel_rfl)

theorem lawBr : Keyed Try.prog 44 := Keyed.of_law (deep_law_laid dgLaid (m := 2) (by omega) (of_decide_eq_true (by kernel_rfl)) (by kernel_rfl) (by rw [Try.underlying44]))
theorem law3 : Keyed Try.prog 114 := Keyed.of_law (deep_law_laid dgLaid (m := 2) (by omega) (of_decide_eq_true (by kernel_rfl)) (by kernel_rfl) (by rw [Try.underlying114]))
theorem law2 : Keyed Try.prog 122 := Keyed.of_law (deep_law_laid dgLaid (m := 2) (by omega) (of_decide_eq_true (by kernel_rfl)) (by kernel_rfl) (by rw [Try.underlying122]))
theorem law1 : Keyed Try.prog 3 := int_keyed Try.underlying3
theorem zeroInt (w : World) : (zeroValue 3).run Try.prog w = .ok (.int .i64 0) w := by kernel_rfl
theorem zeroBool (w : World) : (zeroValue 4).run Try.prog w = .ok (.bool false) w := by kernel_rfl

/-- The values of keys. -/
def brVal (b : Br) : Value := .agg #[.int .i64 b.v, .int .i64 b.l, .int .i64 b.h]
def val3 (t : Int × Int × Int) : Value := .agg #[.int .i64 t.1, .int .i64 t.2.1, .int .i64 t.2.2]
def val2 (t : Int × Int) : Value := .agg #[.int .i64 t.1, .int .i64 t.2]
def val1 (x : Int) : Value := .int .i64 x

theorem brVal_inj (a b : Br) (h : brVal a = brVal b) : a = b := by
  cases a; cases b; simp [brVal] at h ⊢; exact h
theorem val3_inj (a b : Int × Int × Int) (h : val3 a = val3 b) : a = b := by
  obtain ⟨a1, a2, a3⟩ := a; obtain ⟨b1, b2, b3⟩ := b; simp [val3] at h ⊢; exact h
theorem val2_inj (a b : Int × Int) (h : val2 a = val2 b) : a = b := by
  obtain ⟨a1, a2⟩ := a; obtain ⟨b1, b2⟩ := b; simp [val2] at h ⊢; exact h
theorem val1_inj (a b : Int) (h : val1 a = val1 b) : a = b := by simp [val1] at h; exact h

/-- The numbers of a branch fit. -/
structure Br.In (b : Br) : Prop where
  v : I64 b.v
  l : I64 b.l
  h : I64 b.h

theorem key_struct3 {P : Program} {k e : TypeId} {f1 f2 f3 : Go.Field} {a b c : Int} (hu : P.underlying k = some (.struct #[f1, f2, f3])) (hk : P.keyType k = true) (hc : P.cellsOf k = 3) (hi : P.cellsOf e = 1) (he : P.underlying e = some (.int .i64)) (d : Nat) (hd : P.types.size = d + 1)
    (t1 : f1.type = e) (t2 : f2.type = e) (t3 : f3.type = e) (o1 : f1.offset = 0) (o2 : f2.offset = 1) (o3 : f3.offset = 2) (n1 : (f1.name != "_") = true) (n2 : (f2.name != "_") = true) (n3 : (f3.name != "_") = true)
    (h1 : (Lit.int .i64 a).wf = true) (h2 : (Lit.int .i64 b).wf = true) (h3 : (Lit.int .i64 c).wf = true) : ∃ l, keyOf P k (.agg #[.int .i64 a, .int .i64 b, .int .i64 c]) = some l := by
  unfold keyOf
  simp [hu, hk, Value.formed, hc, Program.keyLits, hd, Value.cells, he, hi, h1, h2, h3, t1, t2, t3, o1, o2, o3]
  simp at n1 n2 n3
  exact ⟨n1, n2, n3⟩

theorem keyBr (b : Br) (h : b.In) : ∃ l, keyOf Try.prog 44 (brVal b) = some l :=
  key_struct3 Try.underlying44 (by kernel_rfl) (by kernel_rfl) (by kernel_rfl) Try.underlying3 (Try.prog.types.size - 1) (by have := typesPos; omega) rfl rfl rfl rfl rfl rfl rfl rfl rfl h.v.wf h.l.wf h.h.wf

/-- Two branches compared. -/
theorem eqBr (x y : Br) (hx : x.In) (hy : y.In) (w : World) : (Op.equal 44 (.agg #[.int .i64 x.v, .int .i64 x.l, .int .i64 x.h]) (.agg #[.int .i64 y.v, .int .i64 y.l, .int .i64 y.h])).run Try.prog w = .ok (decide (x = y)) w := by
  obtain ⟨lx, h1⟩ := keyBr x hx
  obtain ⟨ly, h2⟩ := keyBr y hy
  obtain ⟨r, hr, hiff⟩ := run_equal_deep (P := Try.prog) w (m := 2) (by omega) (k := 44) (by kernel_rfl) (by rw [Try.underlying44]) h1 h2
  have : r = decide (x = y) := by
    rw [Bool.eq_iff_iff, hiff, decide_eq_true_iff]
    constructor
    · intro e
      subst e
      exact brVal_inj _ _ (lawBr.inj h1 h2)
    · rintro rfl
      rw [h1] at h2
      exact Option.some.inj h2
  rw [← this]; exact hr

theorem key_array3 {P : Program} {k e : TypeId} {a b c : Int} (hu : P.underlying k = some (.array 3 e)) (hk : P.keyType k = true) (hc : P.cellsOf k = 3) (hi : P.cellsOf e = 1) (he : P.underlying e = some (.int .i64)) (d : Nat) (hd : P.types.size = d + 1)
    (h1 : (Lit.int .i64 a).wf = true) (h2 : (Lit.int .i64 b).wf = true) (h3 : (Lit.int .i64 c).wf = true) : ∃ l, keyOf P k (.agg #[.int .i64 a, .int .i64 b, .int .i64 c]) = some l := by
  unfold keyOf
  simp [hu, hk, Value.formed, hc, Program.keyLits, hd, Value.cells, he, hi, h1, h2, h3, List.range, List.range.loop]

theorem key_array2 {P : Program} {k e : TypeId} {a b : Int} (hu : P.underlying k = some (.array 2 e)) (hk : P.keyType k = true) (hc : P.cellsOf k = 2) (hi : P.cellsOf e = 1) (he : P.underlying e = some (.int .i64)) (d : Nat) (hd : P.types.size = d + 1)
    (h1 : (Lit.int .i64 a).wf = true) (h2 : (Lit.int .i64 b).wf = true) : ∃ l, keyOf P k (.agg #[.int .i64 a, .int .i64 b]) = some l := by
  unfold keyOf
  simp [hu, hk, Value.formed, hc, Program.keyLits, hd, Value.cells, he, hi, h1, h2, List.range, List.range.loop]

theorem key3 (t : Int × Int × Int) (h1 : I64 t.1) (h2 : I64 t.2.1) (h3 : I64 t.2.2) : ∃ l, keyOf Try.prog 114 (val3 t) = some l :=
  key_array3 Try.underlying114 (by kernel_rfl) (by kernel_rfl) (by kernel_rfl) Try.underlying3 (Try.prog.types.size - 1) (by have := typesPos; omega) h1.wf h2.wf h3.wf

theorem key2 (t : Int × Int) (h1 : I64 t.1) (h2 : I64 t.2) : ∃ l, keyOf Try.prog 122 (val2 t) = some l :=
  key_array2 Try.underlying122 (by kernel_rfl) (by kernel_rfl) (by kernel_rfl) Try.underlying3 (Try.prog.types.size - 1) (by have := typesPos; omega) h1.wf h2.wf

theorem key1 (x : Int) (h : I64 x) : ∃ l, keyOf Try.prog 3 (val1 x) = some l := ⟨_, keyOf_int_mk Try.underlying3 h.wf⟩

end Go.Proofs.Ytohmibmakelclaa
