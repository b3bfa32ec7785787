/-
  Combining trees by an operation on constants: what a result must be, and the step by the least condition; the memory of a walk as a list.
  No condition.
-/
import Derived.Test.YtohmibmakelclaaPkA
import Derived.Test.YtohmibmakelclaaPkC
namespace Go.Proofs.Ytohmibmakelclaa
set_option linter.unusedVariables false
set_option linter.unusedSimpArgs false

theorem tr_append : ∀ (x ns : List Br) (n : Nat), n < ns.length + 2 → tr (ns ++ x) n = tr ns n
  | [], ns, n, h => by simp
  | b :: x, ns, n, h => by
    rw [show ns ++ b :: x = (ns ++ [b]) ++ x by simp, tr_append x (ns ++ [b]) n (by simp; omega), tr_snoc ns b n h]

/-- The tree to which a tree leads by a condition. -/
def T.side : T → Nat → Bool → T
  | .leaf b, _, _ => .leaf b
  | .node u l h, v, d => if u = v then (if d then h else l) else .node u l h

theorem T.side_ev {t : T} {v : Nat} (c : Nat → Bool) : t.ev c = (t.side v (c v)).ev c := by
  cases t with
  | leaf b => rfl
  | node u l h =>
    simp only [T.side]
    by_cases e : u = v
    · subst e
      rw [if_pos rfl]
      simp only [T.ev]
      cases c u <;> rfl
    · rw [if_neg e]
theorem T.side_ok {t : T} (ok : t.Ok) (v : Nat) (d : Bool) : (t.side v d).Ok := by
  cases t with
  | leaf b => trivial
  | node u l h =>
    simp only [T.side]
    split
    · cases d
      · exact ok.2.2.2.2.1
      · exact ok.2.2.2.2.2
    · exact ok
theorem T.side_lv {t : T} (ok : t.Ok) {v : Nat} (hv : v < 64) (h : v ≤ t.lv) (d : Bool) : v < (t.side v d).lv := by
  cases t with
  | leaf b => exact hv
  | node u l r =>
    simp only [T.side]
    simp only [T.lv] at h
    split
    · rename_i e
      subst e
      cases d
      · exact ok.2.1
      · exact ok.2.2.1
    · simp only [T.lv]; omega

/-- What a combination must be. -/
structure Good (op : Bool → Bool → Bool → Bool) (t0 t1 t2 t : T) : Prop where
  ok : t.Ok
  ev : ∀ c, t.ev c = op (t0.ev c) (t1.ev c) (t2.ev c)
  lv : min t0.lv (min t1.lv t2.lv) ≤ t.lv

theorem Good.leaf (op : Bool → Bool → Bool → Bool) (x y z : Bool) : Good op (.leaf x) (.leaf y) (.leaf z) (.leaf (op x y z)) := ⟨trivial, fun _ => rfl, by simp [T.lv]⟩

theorem Good.unique {op : Bool → Bool → Bool → Bool} {t0 t1 t2 s t : T} (h : Good op t0 t1 t2 s) (k : Good op t0 t1 t2 t) : s = t := T.same h.ok k.ok (fun c => (h.ev c).trans (k.ev c).symm)

theorem Good.step {op : Bool → Bool → Bool → Bool} {t0 t1 t2 l h : T} (k0 : t0.Ok) (k1 : t1.Ok) (k2 : t2.Ok) (v : Nat) (hv : v = min t0.lv (min t1.lv t2.lv)) (h64 : v < 64)
    (L : Good op (t0.side v false) (t1.side v false) (t2.side v false) l) (H : Good op (t0.side v true) (t1.side v true) (t2.side v true) h) :
    (v < l.lv ∧ v < h.lv) ∧ Good op t0 t1 t2 (if l = h then l else .node v l h) := by
  have a0 : v ≤ t0.lv := by omega
  have a1 : v ≤ t1.lv := by omega
  have a2 : v ≤ t2.lv := by omega
  have hl : v < l.lv := by
    have := L.lv
    have := T.side_lv k0 h64 a0 false
    have := T.side_lv k1 h64 a1 false
    have := T.side_lv k2 h64 a2 false
    omega
  have hh : v < h.lv := by
    have := H.lv
    have := T.side_lv k0 h64 a0 true
    have := T.side_lv k1 h64 a1 true
    have := T.side_lv k2 h64 a2 true
    omega
  refine ⟨⟨hl, hh⟩, ?_⟩
  have hev : ∀ c : Nat → Bool, (if c v then h.ev c else l.ev c) = op (t0.ev c) (t1.ev c) (t2.ev c) := by
    intro c
    rw [T.side_ev (t := t0) (v := v) c, T.side_ev (t := t1) (v := v) c, T.side_ev (t := t2) (v := v) c]
    cases hc : c v
    · rw [L.ev c]; simp
    · rw [H.ev c]; simp
  by_cases e : l = h
  · rw [if_pos e]
    subst e
    exact ⟨L.ok, fun c => by rw [← hev c]; simp, by omega⟩
  · rw [if_neg e]
    exact ⟨⟨h64, hl, hh, e, L.ok, H.ok⟩, fun c => by rw [← hev c]; rfl, by show _ ≤ v; omega⟩

/-- A place in the memory of the walk. -/
abbrev Spot := Int × Int × Int
def Spot.sum (p : Spot) : Int := p.1 + p.2.1 + p.2.2

def memF (ms : List (Spot × Int)) (p : Spot) : Option Int := ms.lookup p
theorem memF_cons (ms : List (Spot × Int)) (p : Spot) (r : Int) (x : Spot) : memF ((p, r) :: ms) x = if x = p then some r else memF ms x := by
  unfold memF
  rw [List.lookup_cons]
  by_cases h : x = p
  · subst h; simp
  · rw [if_neg h]
    have : (x == p) = false := by simpa using h
    rw [this]
theorem memF_some {ms : List (Spot × Int)} {p : Spot} {r : Int} (h : memF ms p = some r) : (p, r) ∈ ms := by
  induction ms with
  | nil => cases h
  | cons a ms ih =>
    obtain ⟨q, s⟩ := a
    rw [memF_cons] at h
    by_cases e : p = q
    · rw [if_pos e] at h; cases h; subst e; exact List.mem_cons_self ..
    · rw [if_neg e] at h; exact List.mem_cons_of_mem _ (ih h)
theorem memF_none {ms : List (Spot × Int)} {p : Spot} (h : memF ms p = none) : p ∉ ms.map (·.1) := by
  induction ms with
  | nil => simp
  | cons a ms ih =>
    obtain ⟨q, s⟩ := a
    rw [memF_cons] at h
    by_cases e : p = q
    · rw [if_pos e] at h; cases h
    · rw [if_neg e] at h
      simp only [List.map_cons, List.mem_cons, not_or]
      exact ⟨e, ih h⟩

theorem memF_append {ms y : List (Spot × Int)} {p : Spot} (h : memF ms p = none) (hy : ∀ q ∈ y, q.1 ≠ p) : memF (y ++ ms) p = none := by
  induction y with
  | nil => exact h
  | cons a y ih =>
    obtain ⟨q, s⟩ := a
    rw [List.cons_append, memF_cons, if_neg (fun e => hy (q, s) (List.mem_cons_self ..) e.symm)]
    exact ih (fun q' hq' => hy q' (List.mem_cons_of_mem _ hq'))
theorem room_le {a b c : Nat} (ha : a ≤ 4096) (hb : b ≤ 4096) (hc : c ≤ 4096) : (a + 2) * ((b + 2) * (c + 2)) ≤ 68820640000 := by
  have h1 : (b + 2) * (c + 2) ≤ 4098 * 4098 := Nat.mul_le_mul (by omega) (by omega)
  have h2 := Nat.mul_le_mul (show a + 2 ≤ 4098 by omega) h1
  omega

/-- All spots of a room. -/
def spots (a b c : Nat) : List Spot := (List.range a).flatMap fun (x : Nat) => (List.range b).flatMap fun (y : Nat) => (List.range c).map fun (z : Nat) => ((x : Int), (y : Int), (z : Int))
theorem spots_length (a b c : Nat) : (spots a b c).length = a * (b * c) := by
  have h1 : ∀ (n : Nat) (k : Nat) (f : Nat → List Spot), (∀ x, (f x).length = k) → ((List.range n).flatMap f).length = n * k := by
    intro n k f hf
    induction n with
    | zero => simp
    | succ n ih => rw [List.range_succ, List.flatMap_append, List.length_append, ih]; simp [hf, Nat.succ_mul]
  unfold spots
  apply h1
  intro x
  apply h1
  intro y
  simp
theorem mem_spots {a b c x y z : Nat} (hx : x < a) (hy : y < b) (hz : z < c) : ((x : Int), (y : Int), (z : Int)) ∈ spots a b c := by
  unfold spots
  simp only [List.mem_flatMap, List.mem_range, List.mem_map]
  exact ⟨x, hx, y, hy, z, hz, rfl⟩

end Go.Proofs.Ytohmibmakelclaa

namespace Go.Proofs.Ytohmibmakelclaa
set_option linter.unusedVariables false
set_option linter.unusedSimpArgs false
open Go.RowKit

/-- The blocks that the walk writes. -/
def CM (mb mk bb : Nat) (S : Value) : Nat → Prop := fun k => k = mb ∨ BM mk bb S k

abbrev combFn (po pm pl pa pb : Nat) : Value := .func (.func 97) #[] #[.pointer (some ⟨po, 0, none⟩), .pointer (some ⟨pm, 0, none⟩), .pointer (some ⟨pl, 0, none⟩), .pointer (some ⟨pa, 0, none⟩), .pointer (some ⟨pb, 0, none⟩)]
abbrev combArgs (x y z : Int) (po pm pl pa pb : Nat) : Array Value := #[.agg #[.int .i64 x, .int .i64 y, .int .i64 z], .pointer (some ⟨po, 0, none⟩), .pointer (some ⟨pm, 0, none⟩), .pointer (some ⟨pl, 0, none⟩), .pointer (some ⟨pa, 0, none⟩), .pointer (some ⟨pb, 0, none⟩)]

/-- A function value computes an operation on constants, in every world that has the old blocks. -/
def OpDoes (w0 : World) (B : Nat) (fo : FuncId) (caps : Array Value) (op : Bool → Bool → Bool → Bool) : Prop :=
  (∀ (args : Array Value) (w : World), (callFunc fo args).run Try.prog w = .ok (.enter fo args) w) ∧
  ∀ w, Below B w0 w → ∀ x y z : Bool, Calls Try.prog fo (#[.bool x, .bool y, .bool z] ++ caps) w fun e w' => e = .returned (.bool (op x y z)) ∧ Below w.heap.size w w'

structure CInv (w0 w : World) (B : Nat) (fo : FuncId) (caps : Array Value) (op : Bool → Bool → Bool → Bool) (D0 D1 D2 : Dg) (S0 S1 S2 : Value) (po pm pl pa pb mb mk bb : Nat) (ns : List Br) (S : Value) (ms : List (Spot × Int)) : Prop where
  o : w.heap[po]? = some (.cells #[.func (.func fo) #[] caps] 90 (0, 0))
  m : w.heap[pm]? = some (.cells #[.map (some mb)] 112 (0, 0))
  l : w.heap[pl]? = some (.cells #[S0, .int .i64 D0.root, S1, .int .i64 D1.root, S2, .int .i64 D2.root] 89 (0, 0))
  a : w.heap[pa]? = some (.cells #[combFn po pm pl pa pb] 113 (0, 0))
  b : w.heap[pb]? = some (.cells #[.pointer (some ⟨bb, 0, none⟩)] 81 (0, 0))
  d0 : DgAt w (fun k => B ≤ k) (.agg #[S0, .int .i64 D0.root]) D0
  d1 : DgAt w (fun k => B ≤ k) (.agg #[S1, .int .i64 D1.root]) D1
  d2 : DgAt w (fun k => B ≤ k) (.agg #[S2, .int .i64 D2.root]) D2
  bi : BInv w B mk bb ns S
  map : ∃ n, n ≤ ms.length ∧ IntMap Try.prog 114 3 w mb n val3 (memF ms)
  ok : ∀ p ∈ ms, ∃ a b c r : Nat, p = (((a : Int), (b : Int), (c : Int)), (r : Int)) ∧ a < D0.nodes.length + 2 ∧ b < D1.nodes.length + 2 ∧ c < D2.nodes.length + 2 ∧ r < ns.length + 2 ∧ Good op (tr D0.nodes a) (tr D1.nodes b) (tr D2.nodes c) (tr ns r)
  nd : (ms.map (·.1)).Nodup
  bel : Below B w0 w
  hmb : B ≤ mb
  hmm : mb ≠ mk

section
variable {w0 w : World} {B : Nat} {fo : FuncId} {caps : Array Value} {op : Bool → Bool → Bool → Bool} {D0 D1 D2 : Dg} {S0 S1 S2 : Value} {po pm pl pa pb mb mk bb : Nat} {ns : List Br} {S : Value} {ms : List (Spot × Int)}

theorem CInv.len (h : CInv w0 w B fo caps op D0 D1 D2 S0 S1 S2 po pm pl pa pb mb mk bb ns S ms) : ms.length ≤ (D0.nodes.length + 2) * ((D1.nodes.length + 2) * (D2.nodes.length + 2)) := by
  rw [← spots_length, ← List.length_map (f := (·.1))]
  refine nodup_sub_le _ _ h.nd (fun p hp => ?_)
  rw [List.mem_map] at hp
  obtain ⟨q, hq, rfl⟩ := hp
  obtain ⟨a, b, c, r, rfl, h1, h2, h3, -⟩ := h.ok q hq
  exact mem_spots h1 h2 h3

/-- A block of cells of another type is none that the walk writes. -/
theorem CInv.away (h : CInv w0 w B fo caps op D0 D1 D2 S0 S1 S2 po pm pl pa pb mb mk bb ns S ms) {g : Nat} {cs : Array Value} {t : TypeId} (hg : w.heap[g]? = some (.cells cs t (0, 0))) (h1 : t ≠ 44) (h2 : t ≠ 84) : ¬ CM mb mk bb S g := by
  obtain ⟨n, -, hm⟩ := h.map
  obtain ⟨n', -, hm'⟩ := h.bi.map
  rintro (e | e | e | e)
  · exact hm.ne hg e.symm
  · exact hm'.ne hg e.symm
  · exact ne_type hg h.bi.b h2 e
  · obtain ⟨cs', hc⟩ := own_type h.bi.row e
    exact ne_type hg hc h1 rfl

theorem CInv.lt (h : CInv w0 w B fo caps op D0 D1 D2 S0 S1 S2 po pm pl pa pb mb mk bb ns S ms) : (∀ k, CM mb mk bb S k → B ≤ k) ∧ (∀ k, CM mb mk bb S k → k < w.heap.size) ∧ B ≤ w.heap.size ∧ ¬ BM mk bb S mb := by
  obtain ⟨n, -, hm⟩ := h.map
  obtain ⟨a1, a2, -⟩ := h.bi.away
  refine ⟨?_, ?_, ?_, ?_⟩
  · rintro k (e | e)
    · have := h.hmb; omega
    · exact a1 k e
  · rintro k (e | e)
    · rw [e]; exact hm.lt
    · exact a2 k e
  · have := hm.lt; have := h.hmb; omega
  · rintro (e | e | e)
    · exact h.hmm e
    · exact hm.ne h.bi.b e
    · obtain ⟨cs', hc⟩ := own_type h.bi.row e
      exact hm.ne hc rfl

/-- Where only the builder's blocks, or none, are written. -/
theorem CInv.build (h : CInv w0 w B fo caps op D0 D1 D2 S0 S1 S2 po pm pl pa pb mb mk bb ns S ms) {w' : World} {S' : Value} {x : List Br} (hb : BInv w' B mk bb (ns ++ x) S') (hs : Step (BM mk bb S) w (BM mk bb S') w') :
    CInv w0 w' B fo caps op D0 D1 D2 S0 S1 S2 po pm pl pa pb mb mk bb (ns ++ x) S' ms := by
  have lt : ∀ (g : Nat) (o : Obj), w.heap[g]? = some o → g < w.heap.size := fun g o hg => by rw [Array.getElem?_eq_some_iff] at hg; exact hg.1
  have keep : ∀ {g : Nat} {cs : Array Value} {t : TypeId}, w.heap[g]? = some (.cells cs t (0, 0)) → t ≠ 44 → t ≠ 84 → w'.heap[g]? = some (.cells cs t (0, 0)) := fun {g cs t} hg h1 h2 => (hs.block g (lt _ _ hg) (fun e => h.away hg h1 h2 (.inr e))).trans hg
  obtain ⟨n, hn, hm⟩ := h.map
  obtain ⟨l1, l2, l3, l4⟩ := h.lt
  have hbl : Below B w w' := hs.belowB l3 (fun k hk => l1 k (.inr hk))
  have old : Step (fun k => B ≤ k) w (fun k => B ≤ k) w' := (hs.wide (fun k hk => l1 k (.inr hk))).to (fun _ h => h) (fun k hk => .inl hk)
  refine ⟨keep h.o (by decide) (by decide), keep h.m (by decide) (by decide), keep h.l (by decide) (by decide), keep h.a (by decide) (by decide), keep h.b (by decide) (by decide), h.d0.step old, h.d1.step old, h.d2.step old, hb, ⟨n, hn, hm.step hs l4⟩, ?_, h.nd, h.bel.trans hbl, h.hmb, h.hmm⟩
  intro p hp
  obtain ⟨a, b, c, r, e, h1, h2, h3, h4, h5⟩ := h.ok p hp
  exact ⟨a, b, c, r, e, h1, h2, h3, by simp; omega, by rw [tr_append x ns r h4]; exact h5⟩

theorem CInv.below (h : CInv w0 w B fo caps op D0 D1 D2 S0 S1 S2 po pm pl pa pb mb mk bb ns S ms) {w' : World} (hb : Below w.heap.size w w') : CInv w0 w' B fo caps op D0 D1 D2 S0 S1 S2 po pm pl pa pb mb mk bb ns S ms := by
  have := h.build (x := []) (S' := S) (by simpa using h.bi.below hb) (Step.of_below hb _)
  simpa using this

/-- A place is remembered. -/
theorem CInv.keep (h : CInv w0 w B fo caps op D0 D1 D2 S0 S1 S2 po pm pl pa pb mb mk bb ns S ms) {a b c r : Nat} {n : Nat} {w' : World} (hn : n ≤ ms.length) (hm : IntMap Try.prog 114 3 w' mb (n + 1) val3 (fun x => if x = ((a : Int), (b : Int), (c : Int)) then some (r : Int) else memF ms x)) (hg : w.grownBy w' (some mb))
    (h1 : a < D0.nodes.length + 2) (h2 : b < D1.nodes.length + 2) (h3 : c < D2.nodes.length + 2) (h4 : r < ns.length + 2) (h5 : Good op (tr D0.nodes a) (tr D1.nodes b) (tr D2.nodes c) (tr ns r)) (hfresh : memF ms ((a : Int), (b : Int), (c : Int)) = none) :
    CInv w0 w' B fo caps op D0 D1 D2 S0 S1 S2 po pm pl pa pb mb mk bb ns S ((((a : Int), (b : Int), (c : Int)), (r : Int)) :: ms) ∧ Step (CM mb mk bb S) w (CM mb mk bb S) w' := by
  have lt : ∀ (g : Nat) (o : Obj), w.heap[g]? = some o → g < w.heap.size := fun g o hg => by rw [Array.getElem?_eq_some_iff] at hg; exact hg.1
  have hs : Step (fun k => k = mb) w (fun k => k = mb) w' := (Step.refl _ w).grown hg (fun k e => .inl (by cases e; rfl))
  have keep : ∀ {g : Nat} {cs : Array Value} {t : TypeId}, w.heap[g]? = some (.cells cs t (0, 0)) → t ≠ 44 → t ≠ 84 → w'.heap[g]? = some (.cells cs t (0, 0)) := fun {g cs t} hg h1 h2 => (hs.block g (lt _ _ hg) (fun e => h.away hg h1 h2 (.inl e))).trans hg
  obtain ⟨l1, l2, l3, l4⟩ := h.lt
  have hbl : Below B w w' := hs.belowB l3 (fun k hk => l1 k (.inl hk))
  have old : Step (fun k => B ≤ k) w (fun k => B ≤ k) w' := (hs.wide (fun k hk => l1 k (.inl hk))).to (fun _ h => h) (fun k hk => .inl hk)
  refine ⟨⟨keep h.o (by decide) (by decide), keep h.m (by decide) (by decide), keep h.l (by decide) (by decide), keep h.a (by decide) (by decide), keep h.b (by decide) (by decide), h.d0.step old, h.d1.step old, h.d2.step old, h.bi.aside hs (fun k hk hb => l4 (hk ▸ hb)), ⟨n + 1, by simp; omega, hm.congr (fun x => memF_cons ms _ _ x)⟩, ?_, ?_, h.bel.trans hbl, h.hmb, h.hmm⟩, ?_⟩
  · intro p hp
    rcases List.mem_cons.1 hp with rfl | hp
    · exact ⟨a, b, c, r, rfl, h1, h2, h3, h4, h5⟩
    · exact h.ok p hp
  · simp only [List.map_cons, List.nodup_cons]
    exact ⟨memF_none hfresh, h.nd⟩
  · exact (hs.wide (fun k hk => .inl hk)).to (fun _ h => h) (fun k hk => .inl hk)

/-- What a call of the walk at a place does. -/
def AtDoes (w0 : World) (B : Nat) (fo : FuncId) (caps : Array Value) (op : Bool → Bool → Bool → Bool) (D0 D1 D2 : Dg) (S0 S1 S2 : Value) (po pm pl pa pb mb mk bb : Nat) (a b c : Nat) : Prop :=
  ∀ (w : World) (ns : List Br) (S : Value) (ms : List (Spot × Int)), CInv w0 w B fo caps op D0 D1 D2 S0 S1 S2 po pm pl pa pb mb mk bb ns S ms → ns.length ≤ ms.length → Calls Try.prog 97 (combArgs a b c po pm pl pa pb) w fun e w' =>
    ∃ (r : Nat) (x : List Br) (S' : Value) (y : List (Spot × Int)), e = .returned (.int .i64 (r : Int)) ∧ CInv w0 w' B fo caps op D0 D1 D2 S0 S1 S2 po pm pl pa pb mb mk bb (ns ++ x) S' (y ++ ms) ∧ Step (CM mb mk bb S) w (CM mb mk bb S') w' ∧
      r < (ns ++ x).length + 2 ∧ Good op (tr D0.nodes a) (tr D1.nodes b) (tr D2.nodes c) (tr (ns ++ x) r) ∧ (∀ p ∈ y, p.1.sum ≤ (a : Int) + b + c) ∧ (ns ++ x).length ≤ (y ++ ms).length

end

end Go.Proofs.Ytohmibmakelclaa

namespace Go.Proofs.Ytohmibmakelclaa
set_option linter.unusedVariables false
set_option linter.unusedSimpArgs false
open Go.RowKit

theorem sizea3 : (Try.prog.info? 114).map (·.size) = some 3 := by kernel_rfl

/-- A constant's number. -/
def bit (b : Bool) : Nat := if b then 1 else 0
theorem tr_bit (ns : List Br) (b : Bool) : tr ns (bit b) = .leaf b := by
  cases b
  · exact tr_zero ns
  · exact tr_one ns
theorem bit_of {n : Nat} (h : n < 2) : ∃ b, n = bit b := by
  have : n = 0 ∨ n = 1 := by omega
  rcases this with rfl | rfl
  · exact ⟨false, rfl⟩
  · exact ⟨true, rfl⟩

section
variable {w0 : World} {B : Nat} {fo : FuncId} {caps : Array Value} {op : Bool → Bool → Bool → Bool} {D0 D1 D2 : Dg} {S0 S1 S2 : Value} {po pm pl pa pb mb mk bb : Nat}

set_option maxRecDepth 100000 in
set_option maxHeartbeats 1000000 in
theorem at_const (hop : OpDoes w0 B fo caps op) (x y z : Bool) : AtDoes w0 B fo caps op D0 D1 D2 S0 S1 S2 po pm pl pa pb mb mk bb (bit x) (bit y) (bit z) := by
  intro w ns S ms h hsn
  obtain ⟨w1, bn, e1, hbn, hsz, hN, hb1⟩ := laid w #[.int .i64 (bit x : Int), .int .i64 (bit y : Int), .int .i64 (bit z : Int)] 114
  have h1 := h.below hb1
  obtain ⟨x0, x1, x2⟩ : w1.cell? ⟨bn, 0, none⟩ = some (.int .i64 (bit x : Int)) ∧ w1.cell? ⟨bn, 1, none⟩ = some (.int .i64 (bit y : Int)) ∧ w1.cell? ⟨bn, 2, none⟩ = some (.int .i64 (bit z : Int)) := ⟨by rw [cell_of_row w1 bn 0 _ _ _ hN]; rfl, by rw [cell_of_row w1 bn 1 _ _ _ hN]; rfl, by rw [cell_of_row w1 bn 2 _ _ _ hN]; rfl⟩
  have c0 := cell1_of h1.o
  have HC := Lib.hid (hop.2 w1 h1.bel x y z)
  have hen := hop.1
  have HB := Lib.hid hb1; have HBN := Lib.hid hbn
  have key : Hid (∀ (w' : World) (v : Int), v = (bit (op x y z) : Nat) → Below w.heap.size w w' → ∃ (r : Nat) (x_1 : List Br) (S' : Value) (y_1 : List (Spot × Int)), Ending.returned (.int .i64 v) = Ending.returned (.int .i64 (r : Int)) ∧ CInv w0 w' B fo caps op D0 D1 D2 S0 S1 S2 po pm pl pa pb mb mk bb (ns ++ x_1) S' (y_1 ++ ms) ∧ Step (CM mb mk bb S) w (CM mb mk bb S') w' ∧
      r < (ns ++ x_1).length + 2 ∧ Good op (tr D0.nodes (bit x)) (tr D1.nodes (bit y)) (tr D2.nodes (bit z)) (tr (ns ++ x_1) r) ∧ (∀ p ∈ y_1, p.1.sum ≤ ((bit x : Nat) : Int) + (bit y : Nat) + (bit z : Nat)) ∧ (ns ++ x_1).length ≤ (y_1 ++ ms).length) := by
    rintro w' _ rfl hb
    refine ⟨bit (op x y z), [], S, [], rfl, by simpa using h.below hb, Step.of_below hb _, by simp [bit]; split <;> omega, ?_, by simp, by simpa using hsn⟩
    rw [tr_bit, tr_bit, tr_bit, tr_bit]
    exact Good.leaf op x y z
  clear h h1 hb1 hN hsz hop
  obtain ⟨p, hp, hp2, hp1⟩ : ∃ p : Int, (bit x : Int) = p ∧ p < 2 ∧ (p == 1) = x := ⟨_, rfl, by cases x <;> decide, by cases x <;> decide⟩
  obtain ⟨q, hq, hq2, hq1⟩ : ∃ p : Int, (bit y : Int) = p ∧ p < 2 ∧ (p == 1) = y := ⟨_, rfl, by cases y <;> decide, by cases y <;> decide⟩
  obtain ⟨r, hr, hr2, hr1⟩ : ∃ p : Int, (bit z : Int) = p ∧ p < 2 ∧ (p == 1) = z := ⟨_, rfl, by cases z <;> decide, by cases z <;> decide⟩
  rw [hp, hq, hr] at e1 key
  rw [hp] at x0
  rw [hq] at x1
  rw [hr] at x2
  unfold combArgs
  rw [hp, hq, hr]
  clear hp hq hr
  go_enter Try.func97, Try.ntmps97
  go_wp2_with (fail)
  refine HC.out.mono ?_
  rintro e w2 ⟨rfl, hb2⟩
  obtain ⟨o, ho⟩ : ∃ o, op x y z = o := ⟨_, rfl⟩
  rw [ho]
  have HB2 := Lib.hid hb2; have HO := Lib.hid ho
  clear hb2 ho x0 x1 x2 c0 hen e1
  cases o
  all_goals
    go_wp2_with (fail)
    go_ret
    first
      | exact key.out _ 0 (by simp [HO.out, bit]) (HB.out.trans (HB2.out.mono HB.out.size))
      | exact key.out _ 1 (by simp [HO.out, bit]) (HB.out.trans (HB2.out.mono HB.out.size))

set_option maxRecDepth 100000 in
set_option maxHeartbeats 1000000 in
/-- A place that the walk remembers. -/
theorem at_known (a b c : Nat) (hab : ¬ (a < 2 ∧ b < 2 ∧ c < 2)) (ha : a < 1099511627776) (hb : b < 1099511627776) (hc : c < 1099511627776) {w : World} {ns : List Br} {S : Value} {ms : List (Spot × Int)} (h : CInv w0 w B fo caps op D0 D1 D2 S0 S1 S2 po pm pl pa pb mb mk bb ns S ms) (r : Int) (hm : memF ms ((a : Int), (b : Int), (c : Int)) = some r) :
    Calls Try.prog 97 (combArgs a b c po pm pl pa pb) w fun e w' => e = .returned (.int .i64 r) ∧ Below w.heap.size w w' := by
  obtain ⟨w1, bn, e1, hbn, hsz, hN, hb1⟩ := laid w #[.int .i64 (a : Int), .int .i64 (b : Int), .int .i64 (c : Int)] 114
  have h1 := h.below hb1
  obtain ⟨x0, x1, x2⟩ : w1.cell? ⟨bn, 0, none⟩ = some (.int .i64 (a : Int)) ∧ w1.cell? ⟨bn, 1, none⟩ = some (.int .i64 (b : Int)) ∧ w1.cell? ⟨bn, 2, none⟩ = some (.int .i64 (c : Int)) := ⟨by rw [cell_of_row w1 bn 0 _ _ _ hN]; rfl, by rw [cell_of_row w1 bn 1 _ _ _ hN]; rfl, by rw [cell_of_row w1 bn 2 _ _ _ hN]; rfl⟩
  have c0 := cell1_of h1.m
  obtain ⟨n, -, hmap⟩ := h1.map
  have hr := hmap.look_ok law3 Try.underlying112 Try.underlying3 (zeroInt w1) ((a : Int), (b : Int), (c : Int)) (key3 _ ⟨by simp only; omega, by simp only; omega⟩ ⟨by simp only; omega, by simp only; omega⟩ ⟨by simp only; omega, by simp only; omega⟩)
  rw [hm] at hr
  simp only [val3, Option.getD_some, Option.isSome_some] at hr
  have HB := Lib.hid hb1; have HBN := Lib.hid hbn
  clear h h1 hb1 hN hsz hmap hm
  have hcase : (2 ≤ (a : Int)) ∨ ((a : Int) < 2 ∧ 2 ≤ (b : Int)) ∨ ((a : Int) < 2 ∧ (b : Int) < 2 ∧ 2 ≤ (c : Int)) := by omega
  unfold combArgs
  rcases hcase with h2 | ⟨h2, h3⟩ | ⟨h2, h3, h4⟩
  all_goals
    go_enter Try.func97, Try.ntmps97
    go_wp2_with (fail)
    go_ret
    exact ⟨rfl, by first | exact HB.out | (rw [← HBN.out]; exact HB.out)⟩

end
end Go.Proofs.Ytohmibmakelclaa
