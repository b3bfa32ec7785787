/-
  No cell of these rows narrows 'for every input' (looked for: loops, veiled, ifaces, maps, wideKeys, modest, calm, conditions, laid).
  DERIVED. THE GIVEN ROWS OF THIS SEAT. 12 by the template 'for every input the law returns true; each argument reads behind the call as it read before'; 0 by the template 'total and deterministic' (their statements: YtohmibmakelclaaTotals.lean).
  GIVEN WITH THE SEED: the statements are not yours to turn. If you find one false, say at which input.
  Laid BY PROGRAM, IN A SANDBOX (cutbox-rows.mjs): the forced cells as the released guide's own fill.sh prints them over the translation 320085c1702080f9… (all of the seat's roots in one cut). By AI agents, Wed Nov 11 2026. No macro, syntax, notation, axiom, sorry.
-/
import Derived.Test.YtohmibmakelclaaChecked
import GoSem.Claim
import GoSem.ClaimJoined
import GoSem.ClaimMapViews
import Derived.JoinedTies
import Derived.KernelRfl
namespace Go.Proofs.Ytohmibmakelclaa
/- THE CELL 'sum', in the pinned program and in every row, IS THE sha256 OF THE DUMP (.gsa) THAT YtohmibmakelclaaProg.lean LOADS. Nothing in Lean hashes anything: it is a label: what it is worth is what the hold of that sum in a sandbox is worth. -/
noncomputable def Try.pinned : Pinned := { name := "ytohmibmakelclaa", sum := "320085c1702080f918d9bd48d54476ac61fcba66395ff734868ecf4b9856ca73", checked := Try.checked }
namespace Rows
def none {H : Type} : Left H := { results := [], args := [] }

/-- 'koinelaw02.DiagramCanonical': WHATEVER THE INPUT: true; the input reads as it did. -/
def diagramCanonicalSpec : ChangeSpec := { name := "diagramCanonical", fn := fun _ => fun
  | [d1, d2] => { results := [.lit (.bool true)], args := [d1, d2] }
  | _ => none }
def diagramCanonicalRow : OpenClaim := { program := "ytohmibmakelclaa", sum := "320085c1702080f918d9bd48d54476ac61fcba66395ff734868ecf4b9856ca73", func := "koine/koinelaw02.DiagramCanonical", spec := "diagramCanonical", unfollowed := true, recurses := true, plainKeys := false, apart := false }
def DiagramCanonicalSaid : Prop := diagramCanonicalRow.holds Try.pinned (OpenSpec.ofChange diagramCanonicalSpec)

/-- ITS FALSE NEIGHBOUR: 'it returns false'. Refute it at one input. -/
def diagramCanonicalWrong : ChangeSpec := { name := "diagramCanonical", fn := fun _ => fun
  | [d1, d2] => { results := [.lit (.bool false)], args := [d1, d2] }
  | _ => none }
def DiagramCanonicalWrongFalsely : Prop := diagramCanonicalRow.holds Try.pinned (OpenSpec.ofChange diagramCanonicalWrong)

/-- 'koinelaw02.DiagramRejectsInvalid': WHATEVER THE INPUT: true; the input reads as it did. -/
def diagramRejectsInvalidSpec : ChangeSpec := { name := "diagramRejectsInvalid", fn := fun _ => fun
  | [d1, d2, d3] => { results := [.lit (.bool true)], args := [d1, d2, d3] }
  | _ => none }
def diagramRejectsInvalidRow : OpenClaim := { program := "ytohmibmakelclaa", sum := "320085c1702080f918d9bd48d54476ac61fcba66395ff734868ecf4b9856ca73", func := "koine/koinelaw02.DiagramRejectsInvalid", spec := "diagramRejectsInvalid", unfollowed := true, recurses := true, plainKeys := false, apart := false }
def DiagramRejectsInvalidSaid : Prop := diagramRejectsInvalidRow.holds Try.pinned (OpenSpec.ofChange diagramRejectsInvalidSpec)

/-- ITS FALSE NEIGHBOUR: 'it returns false'. Refute it at one input. -/
def diagramRejectsInvalidWrong : ChangeSpec := { name := "diagramRejectsInvalid", fn := fun _ => fun
  | [d1, d2, d3] => { results := [.lit (.bool false)], args := [d1, d2, d3] }
  | _ => none }
def DiagramRejectsInvalidWrongFalsely : Prop := diagramRejectsInvalidRow.holds Try.pinned (OpenSpec.ofChange diagramRejectsInvalidWrong)

/-- 'koinelaw02.DiagramOperations': WHATEVER THE INPUT: true; the input reads as it did. -/
def diagramOperationsSpec : ChangeSpec := { name := "diagramOperations", fn := fun _ => fun
  | [d1, d2] => { results := [.lit (.bool true)], args := [d1, d2] }
  | _ => none }
def diagramOperationsRow : OpenClaim := { program := "ytohmibmakelclaa", sum := "320085c1702080f918d9bd48d54476ac61fcba66395ff734868ecf4b9856ca73", func := "koine/koinelaw02.DiagramOperations", spec := "diagramOperations", unfollowed := true, recurses := true, plainKeys := false, apart := false }
def DiagramOperationsSaid : Prop := diagramOperationsRow.holds Try.pinned (OpenSpec.ofChange diagramOperationsSpec)

/-- ITS FALSE NEIGHBOUR: 'it returns false'. Refute it at one input. -/
def diagramOperationsWrong : ChangeSpec := { name := "diagramOperations", fn := fun _ => fun
  | [d1, d2] => { results := [.lit (.bool false)], args := [d1, d2] }
  | _ => none }
def DiagramOperationsWrongFalsely : Prop := diagramOperationsRow.holds Try.pinned (OpenSpec.ofChange diagramOperationsWrong)

/-- 'koinelaw02.DiagramAlgebra': WHATEVER THE INPUT: true; the input reads as it did. -/
def diagramAlgebraSpec : ChangeSpec := { name := "diagramAlgebra", fn := fun _ => fun
  | [d] => { results := [.lit (.bool true)], args := [d] }
  | _ => none }
def diagramAlgebraRow : OpenClaim := { program := "ytohmibmakelclaa", sum := "320085c1702080f918d9bd48d54476ac61fcba66395ff734868ecf4b9856ca73", func := "koine/koinelaw02.DiagramAlgebra", spec := "diagramAlgebra", unfollowed := true, recurses := true, plainKeys := false, apart := false }
def DiagramAlgebraSaid : Prop := diagramAlgebraRow.holds Try.pinned (OpenSpec.ofChange diagramAlgebraSpec)

/-- ITS FALSE NEIGHBOUR: 'it returns false'. Refute it at one input. -/
def diagramAlgebraWrong : ChangeSpec := { name := "diagramAlgebra", fn := fun _ => fun
  | [d] => { results := [.lit (.bool false)], args := [d] }
  | _ => none }
def DiagramAlgebraWrongFalsely : Prop := diagramAlgebraRow.holds Try.pinned (OpenSpec.ofChange diagramAlgebraWrong)

/-- 'koinelaw02.DiagramExpansion': WHATEVER THE INPUT: true; the input reads as it did. -/
def diagramExpansionSpec : ChangeSpec := { name := "diagramExpansion", fn := fun _ => fun
  | [d1, d2] => { results := [.lit (.bool true)], args := [d1, d2] }
  | _ => none }
def diagramExpansionRow : OpenClaim := { program := "ytohmibmakelclaa", sum := "320085c1702080f918d9bd48d54476ac61fcba66395ff734868ecf4b9856ca73", func := "koine/koinelaw02.DiagramExpansion", spec := "diagramExpansion", unfollowed := true, recurses := true, plainKeys := false, apart := false }
def DiagramExpansionSaid : Prop := diagramExpansionRow.holds Try.pinned (OpenSpec.ofChange diagramExpansionSpec)

/-- ITS FALSE NEIGHBOUR: 'it returns false'. Refute it at one input. -/
def diagramExpansionWrong : ChangeSpec := { name := "diagramExpansion", fn := fun _ => fun
  | [d1, d2] => { results := [.lit (.bool false)], args := [d1, d2] }
  | _ => none }
def DiagramExpansionWrongFalsely : Prop := diagramExpansionRow.holds Try.pinned (OpenSpec.ofChange diagramExpansionWrong)

/-- 'koinelaw02.DiagramLeast': WHATEVER THE INPUT: true; the input reads as it did. -/
def diagramLeastSpec : ChangeSpec := { name := "diagramLeast", fn := fun _ => fun
  | [d] => { results := [.lit (.bool true)], args := [d] }
  | _ => none }
def diagramLeastRow : OpenClaim := { program := "ytohmibmakelclaa", sum := "320085c1702080f918d9bd48d54476ac61fcba66395ff734868ecf4b9856ca73", func := "koine/koinelaw02.DiagramLeast", spec := "diagramLeast", unfollowed := true, recurses := true, plainKeys := false, apart := false }
def DiagramLeastSaid : Prop := diagramLeastRow.holds Try.pinned (OpenSpec.ofChange diagramLeastSpec)

/-- ITS FALSE NEIGHBOUR: 'it returns false'. Refute it at one input. -/
def diagramLeastWrong : ChangeSpec := { name := "diagramLeast", fn := fun _ => fun
  | [d] => { results := [.lit (.bool false)], args := [d] }
  | _ => none }
def DiagramLeastWrongFalsely : Prop := diagramLeastRow.holds Try.pinned (OpenSpec.ofChange diagramLeastWrong)

/-- 'koinelaw02.DiagramLiterals': WHATEVER THE INPUT: true; the input reads as it did. -/
def diagramLiteralsSpec : ChangeSpec := { name := "diagramLiterals", fn := fun _ => fun
  | [d1, d2] => { results := [.lit (.bool true)], args := [d1, d2] }
  | _ => none }
def diagramLiteralsRow : OpenClaim := { program := "ytohmibmakelclaa", sum := "320085c1702080f918d9bd48d54476ac61fcba66395ff734868ecf4b9856ca73", func := "koine/koinelaw02.DiagramLiterals", spec := "diagramLiterals", unfollowed := true, recurses := true, plainKeys := false, apart := false }
def DiagramLiteralsSaid : Prop := diagramLiteralsRow.holds Try.pinned (OpenSpec.ofChange diagramLiteralsSpec)

/-- ITS FALSE NEIGHBOUR: 'it returns false'. Refute it at one input. -/
def diagramLiteralsWrong : ChangeSpec := { name := "diagramLiterals", fn := fun _ => fun
  | [d1, d2] => { results := [.lit (.bool false)], args := [d1, d2] }
  | _ => none }
def DiagramLiteralsWrongFalsely : Prop := diagramLiteralsRow.holds Try.pinned (OpenSpec.ofChange diagramLiteralsWrong)

/-- 'koinelaw02.DiagramCounts': WHATEVER THE INPUT: true; the input reads as it did. -/
def diagramCountsSpec : ChangeSpec := { name := "diagramCounts", fn := fun _ => fun
  | [d1, d2, d3] => { results := [.lit (.bool true)], args := [d1, d2, d3] }
  | _ => none }
def diagramCountsRow : OpenClaim := { program := "ytohmibmakelclaa", sum := "320085c1702080f918d9bd48d54476ac61fcba66395ff734868ecf4b9856ca73", func := "koine/koinelaw02.DiagramCounts", spec := "diagramCounts", unfollowed := true, recurses := true, plainKeys := false, apart := false }
def DiagramCountsSaid : Prop := diagramCountsRow.holds Try.pinned (OpenSpec.ofChange diagramCountsSpec)

/-- ITS FALSE NEIGHBOUR: 'it returns false'. Refute it at one input. -/
def diagramCountsWrong : ChangeSpec := { name := "diagramCounts", fn := fun _ => fun
  | [d1, d2, d3] => { results := [.lit (.bool false)], args := [d1, d2, d3] }
  | _ => none }
def DiagramCountsWrongFalsely : Prop := diagramCountsRow.holds Try.pinned (OpenSpec.ofChange diagramCountsWrong)

/-- 'koinelaw02.DiagramMatchesReference': WHATEVER THE INPUT: true; the input reads as it did. -/
def diagramMatchesReferenceSpec : ChangeSpec := { name := "diagramMatchesReference", fn := fun _ => fun
  | [d1, d2, d3] => { results := [.lit (.bool true)], args := [d1, d2, d3] }
  | _ => none }
def diagramMatchesReferenceRow : OpenClaim := { program := "ytohmibmakelclaa", sum := "320085c1702080f918d9bd48d54476ac61fcba66395ff734868ecf4b9856ca73", func := "koine/koinelaw02.DiagramMatchesReference", spec := "diagramMatchesReference", unfollowed := true, recurses := true, plainKeys := false, apart := false }
def DiagramMatchesReferenceSaid : Prop := diagramMatchesReferenceRow.holds Try.pinned (OpenSpec.ofChange diagramMatchesReferenceSpec)

/-- ITS FALSE NEIGHBOUR: 'it returns false'. Refute it at one input. -/
def diagramMatchesReferenceWrong : ChangeSpec := { name := "diagramMatchesReference", fn := fun _ => fun
  | [d1, d2, d3] => { results := [.lit (.bool false)], args := [d1, d2, d3] }
  | _ => none }
def DiagramMatchesReferenceWrongFalsely : Prop := diagramMatchesReferenceRow.holds Try.pinned (OpenSpec.ofChange diagramMatchesReferenceWrong)

/-- 'koinelaw02.DiagramInclusion': WHATEVER THE INPUT: true; the input reads as it did. -/
def diagramInclusionSpec : ChangeSpec := { name := "diagramInclusion", fn := fun _ => fun
  | [d1, d2] => { results := [.lit (.bool true)], args := [d1, d2] }
  | _ => none }
def diagramInclusionRow : OpenClaim := { program := "ytohmibmakelclaa", sum := "320085c1702080f918d9bd48d54476ac61fcba66395ff734868ecf4b9856ca73", func := "koine/koinelaw02.DiagramInclusion", spec := "diagramInclusion", unfollowed := true, recurses := true, plainKeys := false, apart := false }
def DiagramInclusionSaid : Prop := diagramInclusionRow.holds Try.pinned (OpenSpec.ofChange diagramInclusionSpec)

/-- ITS FALSE NEIGHBOUR: 'it returns false'. Refute it at one input. -/
def diagramInclusionWrong : ChangeSpec := { name := "diagramInclusion", fn := fun _ => fun
  | [d1, d2] => { results := [.lit (.bool false)], args := [d1, d2] }
  | _ => none }
def DiagramInclusionWrongFalsely : Prop := diagramInclusionRow.holds Try.pinned (OpenSpec.ofChange diagramInclusionWrong)

/-- 'koinelaw02.DiagramPartsMatchReference': WHATEVER THE INPUT: true; the input reads as it did. -/
def diagramPartsMatchReferenceSpec : ChangeSpec := { name := "diagramPartsMatchReference", fn := fun _ => fun
  | [d1, d2, d3] => { results := [.lit (.bool true)], args := [d1, d2, d3] }
  | _ => none }
def diagramPartsMatchReferenceRow : OpenClaim := { program := "ytohmibmakelclaa", sum := "320085c1702080f918d9bd48d54476ac61fcba66395ff734868ecf4b9856ca73", func := "koine/koinelaw02.DiagramPartsMatchReference", spec := "diagramPartsMatchReference", unfollowed := true, recurses := true, plainKeys := false, apart := false }
def DiagramPartsMatchReferenceSaid : Prop := diagramPartsMatchReferenceRow.holds Try.pinned (OpenSpec.ofChange diagramPartsMatchReferenceSpec)

/-- ITS FALSE NEIGHBOUR: 'it returns false'. Refute it at one input. -/
def diagramPartsMatchReferenceWrong : ChangeSpec := { name := "diagramPartsMatchReference", fn := fun _ => fun
  | [d1, d2, d3] => { results := [.lit (.bool false)], args := [d1, d2, d3] }
  | _ => none }
def DiagramPartsMatchReferenceWrongFalsely : Prop := diagramPartsMatchReferenceRow.holds Try.pinned (OpenSpec.ofChange diagramPartsMatchReferenceWrong)

/-- 'koinelaw02.DiagramSupport': WHATEVER THE INPUT: true; the input reads as it did. -/
def diagramSupportSpec : ChangeSpec := { name := "diagramSupport", fn := fun _ => fun
  | [d] => { results := [.lit (.bool true)], args := [d] }
  | _ => none }
def diagramSupportRow : OpenClaim := { program := "ytohmibmakelclaa", sum := "320085c1702080f918d9bd48d54476ac61fcba66395ff734868ecf4b9856ca73", func := "koine/koinelaw02.DiagramSupport", spec := "diagramSupport", unfollowed := true, recurses := true, plainKeys := false, apart := false }
def DiagramSupportSaid : Prop := diagramSupportRow.holds Try.pinned (OpenSpec.ofChange diagramSupportSpec)

/-- ITS FALSE NEIGHBOUR: 'it returns false'. Refute it at one input. -/
def diagramSupportWrong : ChangeSpec := { name := "diagramSupport", fn := fun _ => fun
  | [d] => { results := [.lit (.bool false)], args := [d] }
  | _ => none }
def DiagramSupportWrongFalsely : Prop := diagramSupportRow.holds Try.pinned (OpenSpec.ofChange diagramSupportWrong)

/- THE SECOND FORM. 'bulk': how many values and letters a reading holds, each counted each time it is reached (what is shared counts as often as it is met; a slice's spare places count too). A statement '..UptoSaid' is the law's where the arguments, and the package variables that the reading takes, are together of bulk at most 1048576: NARROWER than '..Said'. Prove '..Said' where nothing that the law and all that it calls make is longer than what came in: it says more and counts as full. Else prove '..UptoSaid'. A law counts once. -/
mutual
def uptoBulk {H : Type} : DataW H → Nat
  | .lit (.string bytes) => bytes.length + 1
  | .lit _ => 1
  | .nil => 1
  | .ptr d => uptoBulk d + 1
  | .slice elems spare => uptoBulkAll elems + uptoBulkAll spare + 1
  | .agg parts => uptoBulkAll parts + 1
  | .iface _ d => uptoBulk d + 1
  | .map entries => uptoBulkEntries entries + 1
  | .held _ => 1
def uptoBulkAll {H : Type} : List (DataW H) → Nat
  | [] => 0
  | d :: r => uptoBulk d + uptoBulkAll r
def uptoBulkEntries {H : Type} : List (Lit × DataW H) → Nat
  | [] => 0
  | x :: r => uptoBulkEntry x + uptoBulkEntries r
def uptoBulkEntry {H : Type} : Lit × DataW H → Nat
  | (.string bytes, d) => bytes.length + uptoBulk d + 1
  | (_, d) => uptoBulk d + 1
 end
def uptoSmall : (H : Type) → List (DataW H) → Bool := fun _ ds => decide (uptoBulkAll ds ≤ 1048576)
def OpenSpec.upto (s : _root_.Go.ChangeSpec) : _root_.Go.OpenSpec := { _root_.Go.OpenSpec.ofChange s with cond := some uptoSmall }

/-- 'koinelaw02.DiagramCanonical', WHERE WHAT IT READS IS OF BULK AT MOST 1048576: true; the input reads as it did. -/
def diagramCanonicalUptoRow : OpenClaim := { program := "ytohmibmakelclaa", sum := "320085c1702080f918d9bd48d54476ac61fcba66395ff734868ecf4b9856ca73", func := "koine/koinelaw02.DiagramCanonical", spec := "diagramCanonical", unfollowed := true, recurses := true, plainKeys := false, apart := false, narrowed := true }
def DiagramCanonicalUptoSaid : Prop := diagramCanonicalUptoRow.holds Try.pinned (OpenSpec.upto diagramCanonicalSpec)

/-- 'koinelaw02.DiagramRejectsInvalid', WHERE WHAT IT READS IS OF BULK AT MOST 1048576: true; the input reads as it did. -/
def diagramRejectsInvalidUptoRow : OpenClaim := { program := "ytohmibmakelclaa", sum := "320085c1702080f918d9bd48d54476ac61fcba66395ff734868ecf4b9856ca73", func := "koine/koinelaw02.DiagramRejectsInvalid", spec := "diagramRejectsInvalid", unfollowed := true, recurses := true, plainKeys := false, apart := false, narrowed := true }
def DiagramRejectsInvalidUptoSaid : Prop := diagramRejectsInvalidUptoRow.holds Try.pinned (OpenSpec.upto diagramRejectsInvalidSpec)

/-- 'koinelaw02.DiagramOperations', WHERE WHAT IT READS IS OF BULK AT MOST 1048576: true; the input reads as it did. -/
def diagramOperationsUptoRow : OpenClaim := { program := "ytohmibmakelclaa", sum := "320085c1702080f918d9bd48d54476ac61fcba66395ff734868ecf4b9856ca73", func := "koine/koinelaw02.DiagramOperations", spec := "diagramOperations", unfollowed := true, recurses := true, plainKeys := false, apart := false, narrowed := true }
def DiagramOperationsUptoSaid : Prop := diagramOperationsUptoRow.holds Try.pinned (OpenSpec.upto diagramOperationsSpec)

/-- 'koinelaw02.DiagramAlgebra', WHERE WHAT IT READS IS OF BULK AT MOST 1048576: true; the input reads as it did. -/
def diagramAlgebraUptoRow : OpenClaim := { program := "ytohmibmakelclaa", sum := "320085c1702080f918d9bd48d54476ac61fcba66395ff734868ecf4b9856ca73", func := "koine/koinelaw02.DiagramAlgebra", spec := "diagramAlgebra", unfollowed := true, recurses := true, plainKeys := false, apart := false, narrowed := true }
def DiagramAlgebraUptoSaid : Prop := diagramAlgebraUptoRow.holds Try.pinned (OpenSpec.upto diagramAlgebraSpec)

/-- 'koinelaw02.DiagramExpansion', WHERE WHAT IT READS IS OF BULK AT MOST 1048576: true; the input reads as it did. -/
def diagramExpansionUptoRow : OpenClaim := { program := "ytohmibmakelclaa", sum := "320085c1702080f918d9bd48d54476ac61fcba66395ff734868ecf4b9856ca73", func := "koine/koinelaw02.DiagramExpansion", spec := "diagramExpansion", unfollowed := true, recurses := true, plainKeys := false, apart := false, narrowed := true }
def DiagramExpansionUptoSaid : Prop := diagramExpansionUptoRow.holds Try.pinned (OpenSpec.upto diagramExpansionSpec)

/-- 'koinelaw02.DiagramLeast', WHERE WHAT IT READS IS OF BULK AT MOST 1048576: true; the input reads as it did. -/
def diagramLeastUptoRow : OpenClaim := { program := "ytohmibmakelclaa", sum := "320085c1702080f918d9bd48d54476ac61fcba66395ff734868ecf4b9856ca73", func := "koine/koinelaw02.DiagramLeast", spec := "diagramLeast", unfollowed := true, recurses := true, plainKeys := false, apart := false, narrowed := true }
def DiagramLeastUptoSaid : Prop := diagramLeastUptoRow.holds Try.pinned (OpenSpec.upto diagramLeastSpec)

/-- 'koinelaw02.DiagramLiterals', WHERE WHAT IT READS IS OF BULK AT MOST 1048576: true; the input reads as it did. -/
def diagramLiteralsUptoRow : OpenClaim := { program := "ytohmibmakelclaa", sum := "320085c1702080f918d9bd48d54476ac61fcba66395ff734868ecf4b9856ca73", func := "koine/koinelaw02.DiagramLiterals", spec := "diagramLiterals", unfollowed := true, recurses := true, plainKeys := false, apart := false, narrowed := true }
def DiagramLiteralsUptoSaid : Prop := diagramLiteralsUptoRow.holds Try.pinned (OpenSpec.upto diagramLiteralsSpec)

/-- 'koinelaw02.DiagramCounts', WHERE WHAT IT READS IS OF BULK AT MOST 1048576: true; the input reads as it did. -/
def diagramCountsUptoRow : OpenClaim := { program := "ytohmibmakelclaa", sum := "320085c1702080f918d9bd48d54476ac61fcba66395ff734868ecf4b9856ca73", func := "koine/koinelaw02.DiagramCounts", spec := "diagramCounts", unfollowed := true, recurses := true, plainKeys := false, apart := false, narrowed := true }
def DiagramCountsUptoSaid : Prop := diagramCountsUptoRow.holds Try.pinned (OpenSpec.upto diagramCountsSpec)

/-- 'koinelaw02.DiagramMatchesReference', WHERE WHAT IT READS IS OF BULK AT MOST 1048576: true; the input reads as it did. -/
def diagramMatchesReferenceUptoRow : OpenClaim := { program := "ytohmibmakelclaa", sum := "320085c1702080f918d9bd48d54476ac61fcba66395ff734868ecf4b9856ca73", func := "koine/koinelaw02.DiagramMatchesReference", spec := "diagramMatchesReference", unfollowed := true, recurses := true, plainKeys := false, apart := false, narrowed := true }
def DiagramMatchesReferenceUptoSaid : Prop := diagramMatchesReferenceUptoRow.holds Try.pinned (OpenSpec.upto diagramMatchesReferenceSpec)

/-- 'koinelaw02.DiagramInclusion', WHERE WHAT IT READS IS OF BULK AT MOST 1048576: true; the input reads as it did. -/
def diagramInclusionUptoRow : OpenClaim := { program := "ytohmibmakelclaa", sum := "320085c1702080f918d9bd48d54476ac61fcba66395ff734868ecf4b9856ca73", func := "koine/koinelaw02.DiagramInclusion", spec := "diagramInclusion", unfollowed := true, recurses := true, plainKeys := false, apart := false, narrowed := true }
def DiagramInclusionUptoSaid : Prop := diagramInclusionUptoRow.holds Try.pinned (OpenSpec.upto diagramInclusionSpec)

/-- 'koinelaw02.DiagramPartsMatchReference', WHERE WHAT IT READS IS OF BULK AT MOST 1048576: true; the input reads as it did. -/
def diagramPartsMatchReferenceUptoRow : OpenClaim := { program := "ytohmibmakelclaa", sum := "320085c1702080f918d9bd48d54476ac61fcba66395ff734868ecf4b9856ca73", func := "koine/koinelaw02.DiagramPartsMatchReference", spec := "diagramPartsMatchReference", unfollowed := true, recurses := true, plainKeys := false, apart := false, narrowed := true }
def DiagramPartsMatchReferenceUptoSaid : Prop := diagramPartsMatchReferenceUptoRow.holds Try.pinned (OpenSpec.upto diagramPartsMatchReferenceSpec)

/-- 'koinelaw02.DiagramSupport', WHERE WHAT IT READS IS OF BULK AT MOST 1048576: true; the input reads as it did. -/
def diagramSupportUptoRow : OpenClaim := { program := "ytohmibmakelclaa", sum := "320085c1702080f918d9bd48d54476ac61fcba66395ff734868ecf4b9856ca73", func := "koine/koinelaw02.DiagramSupport", spec := "diagramSupport", unfollowed := true, recurses := true, plainKeys := false, apart := false, narrowed := true }
def DiagramSupportUptoSaid : Prop := diagramSupportUptoRow.holds Try.pinned (OpenSpec.upto diagramSupportSpec)

end Rows
end Go.Proofs.Ytohmibmakelclaa
