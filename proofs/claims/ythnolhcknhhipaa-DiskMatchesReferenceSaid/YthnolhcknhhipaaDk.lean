/-
  A disk in memory ('DiskAt'), and what it is as data ('DS').
  No condition.
-/
import Derived.Test.YthnolhcknhhipaaRows
import Derived.Test.YthnolhcknhhipaaMem
import Derived.Deep.MidRow
import Derived.Deep.WholeRow
namespace Go.Proofs.Ythnolhcknhhipaa
set_option linter.unusedVariables false
set_option linter.unusedSimpArgs false
open Go.RowKit

/-- A disk as data. -/
structure DS where
  dur : List Int
  wr : List (Int × List Int)
  down : Bool
  fuse : Int
  kept : List Int

def wcell (p : Int × List Int) : List Value := .int .i64 p.1 :: p.2.map (.int .u8)
def wcells (l : List (Int × List Int)) : List Value := l.flatMap wcell

/-- What holds of a disk with n sectors. -/
structure DS.Ok (n : Nat) (s : DS) : Prop where
  dur : s.dur.length = 64 * n
  lo : 1 ≤ n
  hi : n ≤ 65536
  wr : ∀ p ∈ s.wr, 0 ≤ p.1 ∧ p.1 < n ∧ p.2.length = 64
  fuse0 : 0 ≤ s.fuse
  fuse1 : s.fuse ≤ 9223372036854775807
  kept : ∀ x ∈ s.kept, -9223372036854775808 ≤ x ∧ x ≤ 9223372036854775807

theorem wcells_one (l : List (Int × List Int)) : ∀ u ∈ wcells l, u.oneCell' = true := by
  intro u hu
  obtain ⟨p, _, hp⟩ := List.mem_flatMap.1 hu
  rcases List.mem_cons.1 hp with rfl | hp
  · rfl
  · obtain ⟨x, _, rfl⟩ := List.mem_map.1 hp; rfl

/-- The five cells of a disk. -/
def dcells (gd n capd : Nat) (W : Value) (down : Bool) (fuse : Int) (K : Value) : Array Value :=
  #[.slice (some ⟨gd, 0, none⟩) n capd, W, .bool down, .int .i64 fuse, K]

/-- The disk s lies at block g; the blocks that it may write are of F. -/
structure DiskIn (w : World) (F : Nat → Prop) (g : Nat) (s : DS) (gd capd : Nat) (W K : Value) : Prop where
  blk : w.heap[g]? = some (.cells (dcells gd s.dur.length capd W s.down s.fuse K) 63 (0, 0))
  dur : w.ownsRow 0 5 1 (.slice (some ⟨gd, 0, none⟩) s.dur.length capd) s.dur.length (s.dur.map (.int .u8))
  wr : w.ownsRow 0 66 65 W s.wr.length (wcells s.wr)
  kept : w.ownsRow 0 3 1 K s.kept.length (s.kept.map (.int .i64))
  fg : F g
  fd : F gd
  ne : g ≠ gd
  fw : ∀ b, W.ownBlock = some b → F b ∧ b ≠ g ∧ b ≠ gd
  fk : ∀ b, K.ownBlock = some b → F b ∧ b ≠ g ∧ b ≠ gd ∧ W.ownBlock ≠ some b
  lt : ∀ k, F k → k < w.heap.size

def DiskAt (w : World) (F : Nat → Prop) (g : Nat) (s : DS) : Prop := ∃ gd capd W K, DiskIn w F g s gd capd W K

theorem DiskIn.cell0 {w F g s gd capd W K} (h : DiskIn w F g s gd capd W K) : w.cell? ⟨g, 0, none⟩ = some (.slice (some ⟨gd, 0, none⟩) s.dur.length capd) := by simp [World.cell?, h.blk, dcells]
theorem DiskIn.cell1 {w F g s gd capd W K} (h : DiskIn w F g s gd capd W K) : w.cell? ⟨g, 1, none⟩ = some W := by simp [World.cell?, h.blk, dcells]
theorem DiskIn.cell2 {w F g s gd capd W K} (h : DiskIn w F g s gd capd W K) : w.cell? ⟨g, 2, none⟩ = some (.bool s.down) := by simp [World.cell?, h.blk, dcells]
theorem DiskIn.cell3 {w F g s gd capd W K} (h : DiskIn w F g s gd capd W K) : w.cell? ⟨g, 3, none⟩ = some (.int .i64 s.fuse) := by simp [World.cell?, h.blk, dcells]
theorem DiskIn.cell4 {w F g s gd capd W K} (h : DiskIn w F g s gd capd W K) : w.cell? ⟨g, 4, none⟩ = some K := by simp [World.cell?, h.blk, dcells]
theorem DiskIn.froz {w F g s gd capd W K} (h : DiskIn w F g s gd capd W K) (i : Nat) : w.frozen? ⟨g, i, none⟩ = false := by simp [World.frozen?, h.blk]

/-- An owned row stands where its block does. -/
theorem ownsRow_of_block {w w' : World} {base e size n : Nat} {v : Value} {xs : List Value} (h : w.ownsRow base e size v n xs) (hb : ∀ b, v.ownBlock = some b → w'.heap[b]? = w.heap[b]?) : w'.ownsRow base e size v n xs := by
  refine ⟨h.1, ?_⟩
  rcases h.2 with hn | ⟨g, cap, cur, rfl, hbase, hgg, rest⟩
  · exact .inl hn
  · exact .inr ⟨g, cap, cur, rfl, hbase, (hb g rfl).trans hgg, rest⟩

/-- The disk stands where its blocks do. -/
theorem DiskIn.of_blocks {w w' : World} {F F' : Nat → Prop} {g s gd capd W K} (h : DiskIn w F g s gd capd W K) (hb : ∀ k, F k → w'.heap[k]? = w.heap[k]?) (hF : ∀ k, F k → F' k) (hl : ∀ k, F' k → k < w'.heap.size) : DiskIn w' F' g s gd capd W K :=
  ⟨(hb g h.fg).trans h.blk, ownsRow_of_block h.dur (fun b e => by cases e; exact hb gd h.fd), ownsRow_of_block h.wr (fun b e => hb b (h.fw b e).1), ownsRow_of_block h.kept (fun b e => hb b (h.fk b e).1), hF _ h.fg, hF _ h.fd, h.ne,
   fun b e => ⟨hF _ (h.fw b e).1, (h.fw b e).2⟩, fun b e => ⟨hF _ (h.fk b e).1, (h.fk b e).2⟩, hl⟩

/-- Another disk's work turns nothing of this one. -/
theorem DiskAt.step {w w' : World} {F M M' : Nat → Prop} {g s} (h : DiskAt w F g s) (hs : Step M w M' w') (hF : ∀ k, F k → ¬ M k) : DiskAt w' F g s := by
  obtain ⟨gd, capd, W, K, h⟩ := h
  exact ⟨gd, capd, W, K, h.of_blocks (fun k hk => hs.block k (h.lt k hk) (hF k hk)) (fun _ h => h) (fun k hk => Nat.lt_of_lt_of_le (h.lt k hk) hs.size)⟩

/-- One of the disk's own cells is written. -/
theorem heap_set5 {w : World} {g : Nat} {cs : Array Value} {t : TypeId} (h : w.heap[g]? = some (.cells cs t (0, 0))) (i : Nat) (u : Value) : (w.setCell ⟨g, i, none⟩ u).heap[g]? = some (.cells (cs.setIfInBounds i u) t (0, 0)) :=
  heap_setCell_same w g i cs t u h

/-- The disk behind a write to its own block. -/
theorem DiskIn.setOwn {w : World} {F : Nat → Prop} {g : Nat} {s : DS} {gd capd : Nat} {W K : Value} (h : DiskIn w F g s gd capd W K) (i : Nat) (u : Value) (s' : DS) (W' K' : Value)
    (hs : (dcells gd s.dur.length capd W s.down s.fuse K).setIfInBounds i u = dcells gd s'.dur.length capd W' s'.down s'.fuse K') (hd : s'.dur = s.dur)
    (hw : (W' = W ∧ s'.wr = s.wr) ∨ (W' = .slice none 0 0 ∧ s'.wr = [])) (hk : (K' = K ∧ s'.kept = s.kept) ∨ (K' = .slice none 0 0 ∧ s'.kept = [])) :
    DiskIn (w.setCell ⟨g, i, none⟩ u) F g s' gd capd W' K' := by
  have ho : ∀ b, b ≠ g → (w.setCell ⟨g, i, none⟩ u).heap[b]? = w.heap[b]? := fun b hb => heap_setCell_other w ⟨g, i, none⟩ b u hb
  have hd' : (w.setCell ⟨g, i, none⟩ u).ownsRow 0 5 1 (.slice (some ⟨gd, 0, none⟩) s'.dur.length capd) s'.dur.length (s'.dur.map (.int .u8)) := by
    rw [hd]; exact ownsRow_of_block h.dur (fun b e => by cases e; exact ho _ (Ne.symm h.ne))
  refine ⟨by rw [heap_set5 h.blk, hs], hd', ?_, ?_, h.fg, h.fd, h.ne, ?_, ?_, fun k hk => by simpa [World.setCell] using h.lt k hk⟩
  · rcases hw with ⟨rfl, e⟩ | ⟨rfl, e⟩
    · rw [e]; exact ownsRow_of_block h.wr (fun b e => ho _ (h.fw b e).2.1)
    · rw [e]; exact World.ownsRow_nil _ _ _ _
  · rcases hk with ⟨rfl, e⟩ | ⟨rfl, e⟩
    · rw [e]; exact ownsRow_of_block h.kept (fun b e => ho _ (h.fk b e).2.1)
    · rw [e]; exact World.ownsRow_nil _ _ _ _
  · rcases hw with ⟨rfl, e⟩ | ⟨rfl, e⟩
    · exact h.fw
    · intro b hb; simp [Value.ownBlock] at hb
  · rcases hk with ⟨rfl, e⟩ | ⟨rfl, e⟩
    · intro b hb
      obtain ⟨h1, h2, h3, h4⟩ := h.fk b hb
      refine ⟨h1, h2, h3, ?_⟩
      rcases hw with ⟨rfl, e⟩ | ⟨rfl, e⟩
      · exact h4
      · simp [Value.ownBlock]
    · intro b hb; simp [Value.ownBlock] at hb

/-- The disk behind a store of another row of kept numbers. -/
theorem DiskIn.setK {w : World} {F F' : Nat → Prop} {g : Nat} {s : DS} {gd capd : Nat} {W K : Value} (h : DiskIn w F g s gd capd W K) (K' : Value) (ks : List Int)
    (hk : w.ownsRow 0 3 1 K' ks.length (ks.map (.int .i64))) (hF : ∀ k, F k → F' k) (hl : ∀ k, F' k → k < w.heap.size) (hb : ∀ b, K'.ownBlock = some b → F' b ∧ b ≠ g ∧ b ≠ gd ∧ W.ownBlock ≠ some b) :
    DiskIn (w.setCell ⟨g, 4, none⟩ K') F' g { s with kept := ks } gd capd W K' := by
  have ho : ∀ b, b ≠ g → (w.setCell ⟨g, 4, none⟩ K').heap[b]? = w.heap[b]? := fun b hb => heap_setCell_other w ⟨g, 4, none⟩ b K' hb
  refine ⟨by rw [heap_set5 h.blk]; rfl, ownsRow_of_block h.dur (fun b e => by cases e; exact ho _ (Ne.symm h.ne)), ownsRow_of_block h.wr (fun b e => ho _ (h.fw b e).2.1), ownsRow_of_block hk (fun b e => ho _ (hb b e).2.1), hF _ h.fg, hF _ h.fd, h.ne,
    fun b e => ⟨hF _ (h.fw b e).1, (h.fw b e).2⟩, hb, fun k hk => by simpa [World.setCell] using hl k hk⟩

/-- The disk behind a store of another row of writes. -/
theorem DiskIn.setW {w : World} {F F' : Nat → Prop} {g : Nat} {s : DS} {gd capd : Nat} {W K : Value} (h : DiskIn w F g s gd capd W K) (W' : Value) (l : List (Int × List Int))
    (hk : w.ownsRow 0 66 65 W' l.length (wcells l)) (hF : ∀ k, F k → F' k) (hl : ∀ k, F' k → k < w.heap.size) (hb : ∀ b, W'.ownBlock = some b → F' b ∧ b ≠ g ∧ b ≠ gd ∧ K.ownBlock ≠ some b) :
    DiskIn (w.setCell ⟨g, 1, none⟩ W') F' g { s with wr := l } gd capd W' K := by
  have ho : ∀ b, b ≠ g → (w.setCell ⟨g, 1, none⟩ W').heap[b]? = w.heap[b]? := fun b hb => heap_setCell_other w ⟨g, 1, none⟩ b W' hb
  refine ⟨by rw [heap_set5 h.blk]; rfl, ownsRow_of_block h.dur (fun b e => by cases e; exact ho _ (Ne.symm h.ne)), ownsRow_of_block hk (fun b e => ho _ (hb b e).2.1), ownsRow_of_block h.kept (fun b e => ho _ (h.fk b e).2.1), hF _ h.fg, hF _ h.fd, h.ne,
    fun b e => ⟨(hb b e).1, (hb b e).2.1, (hb b e).2.2.1⟩, fun b e => ⟨hF _ (h.fk b e).1, (h.fk b e).2.1, (h.fk b e).2.2.1, fun e' => (hb b e').2.2.2 e⟩, fun k hk => by simpa [World.setCell] using hl k hk⟩

/-- The disk behind an append to its writes. -/
theorem DiskIn.newW {w w3 : World} {F F' : Nat → Prop} {g : Nat} {s : DS} {gd capd : Nat} {W K : Value} (h : DiskIn w F g s gd capd W K) (hg : w.grownBy w3 W.ownBlock) (W' : Value) (l : List (Int × List Int))
    (hk : w3.ownsRow 0 66 65 W' l.length (wcells l)) (hF : ∀ k, F k → F' k) (hl : ∀ k, F' k → k < w3.heap.size) (hb : ∀ b, W'.ownBlock = some b → F' b ∧ b ≠ g ∧ b ≠ gd ∧ K.ownBlock ≠ some b) :
    DiskIn (w3.setCell ⟨g, 1, none⟩ W') F' g { s with wr := l } gd capd W' K := by
  have ho : ∀ b, b ≠ g → (w3.setCell ⟨g, 1, none⟩ W').heap[b]? = w3.heap[b]? := fun b hb => heap_setCell_other w3 ⟨g, 1, none⟩ b W' hb
  have h3 : ∀ b, F b → W.ownBlock ≠ some b → w3.heap[b]? = w.heap[b]? := fun b hf hne => hg.block b (h.lt b hf) (fun e => hne e.symm)
  have hgn : W.ownBlock ≠ some g := fun e => (h.fw g e).2.1 rfl
  have hdn : W.ownBlock ≠ some gd := fun e => (h.fw gd e).2.2 rfl
  refine ⟨by rw [heap_set5 ((h3 g h.fg hgn).trans h.blk)]; rfl, ownsRow_of_block h.dur (fun b e => by cases e; rw [ho _ (Ne.symm h.ne)]; exact h3 gd h.fd hdn), ownsRow_of_block hk (fun b e => ho _ (hb b e).2.1),
    ownsRow_of_block h.kept (fun b e => by rw [ho _ (h.fk b e).2.1]; exact h3 b (h.fk b e).1 (h.fk b e).2.2.2), hF _ h.fg, hF _ h.fd, h.ne,
    fun b e => ⟨(hb b e).1, (hb b e).2.1, (hb b e).2.2.1⟩, fun b e => ⟨hF _ (h.fk b e).1, (h.fk b e).2.1, (h.fk b e).2.2.1, fun e' => (hb b e').2.2.2 e⟩, fun k hk => by simpa [World.setCell] using hl k hk⟩

/-- F and what is new in w'. -/
def More (F : Nat → Prop) (w w' : World) : Nat → Prop := fun k => F k ∨ (w.heap.size ≤ k ∧ k < w'.heap.size)

theorem More.lt {F : Nat → Prop} {w w' : World} (h : ∀ k, F k → k < w.heap.size) (hs : w.heap.size ≤ w'.heap.size) : ∀ k, More F w w' k → k < w'.heap.size := fun k hk => hk.elim (fun hf => Nat.lt_of_lt_of_le (h k hf) hs) (·.2)
theorem Step.more {F M' : Nat → Prop} {w w' : World} (h : Step F w M' w') (w2 : World) : Step F w (More F w w2) w' := ⟨h.os, h.tape, h.output, h.size, h.block, fun k hk => hk.imp id (·.1)⟩

theorem DiskIn.below {a b : World} {F : Nat → Prop} {g s gd capd W K} (hb : Below a.heap.size a b) (h : DiskIn a F g s gd capd W K) : DiskIn b F g s gd capd W K :=
  h.of_blocks (fun k hk => hb.block k (h.lt k hk)) (fun _ h => h) (fun k hk => Nat.lt_of_lt_of_le (h.lt k hk) hb.size)

/-- The durable row as a list, the spare cells behind it. -/
theorem DiskIn.durRow {w : World} {F : Nat → Prop} {g s gd capd W K} (h : DiskIn w F g s gd capd W K) : ∃ R : List Value, w.heap[gd]? = some (.cells (s.dur.map (Value.int .u8) ++ R).toArray 5 (0, 0)) ∧ (s.dur.map (Value.int .u8) ++ R).length = capd ∧ s.dur.length ≤ capd := by
  rcases h.dur.2 with ⟨h', _⟩ | ⟨g', cap', cur, h', _, hg, hn, hm, hs, ht⟩
  · cases h'
  · injection h' with h1 h2 h3
    simp only [Option.some.injEq, Addr.mk.injEq, and_true] at h1
    subst h1; subst h3
    rw [Nat.mul_one] at ht hs
    have e : s.dur.map (Value.int .u8) ++ cur.toList.drop s.dur.length = cur.toList := by rw [← ht, List.take_append_drop]
    exact ⟨cur.toList.drop s.dur.length, by rw [hg, e], by rw [e]; simpa using hs, hn⟩

/-- The disk behind writes to its durable row. -/
theorem DiskIn.setDur {w w' : World} {F : Nat → Prop} {g s gd capd W K} (h : DiskIn w F g s gd capd W K) (hg : w.grownBy w' (some gd)) (dur' : List Int) (R : List Value) (hl : dur'.length = s.dur.length)
    (hR : (s.dur.map (Value.int .u8) ++ R).length = capd) (hm : capd ≤ maxLen) (hb : w'.heap[gd]? = some (.cells (dur'.map (Value.int .u8) ++ R).toArray 5 (0, 0))) : DiskIn w' F g { s with dur := dur' } gd capd W K := by
  have ho : ∀ b, b ≠ gd → F b → w'.heap[b]? = w.heap[b]? := fun b hb hF => hg.block b (h.lt b hF) (by simpa using hb)
  refine ⟨by rw [ho g h.ne h.fg, h.blk]; simp only [hl], ⟨by simp, .inr ⟨gd, capd, _, rfl, Nat.zero_le _, hb, ?_, hm, ?_, ?_⟩⟩, ownsRow_of_block h.wr (fun b e => ho b (h.fw b e).2.2 (h.fw b e).1), ownsRow_of_block h.kept (fun b e => ho b (h.fk b e).2.2.1 (h.fk b e).1), h.fg, h.fd, h.ne, h.fw, h.fk,
    fun k hk => Nat.lt_of_lt_of_le (h.lt k hk) hg.size⟩
  · simp only [hl]; simp at hR; omega
  · simp only [List.size_toArray, Nat.mul_one, List.length_append, List.length_map, hl] at hR ⊢; exact hR
  · simp

end Go.Proofs.Ythnolhcknhhipaa
