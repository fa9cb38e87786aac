/-
  No cell of these rows narrows 'for every input' (looked for: loops, veiled, ifaces, maps, wideKeys, modest, calm, conditions, laid).
  DERIVED. THE GIVEN ROWS OF THIS SEAT. 11 by the template 'for every input the law returns true; each argument reads behind the call as it read before'; 0 by the template 'total and deterministic' (their statements: YthenedanhcnccaaGreatTotals.lean).
  GIVEN WITH THE SEED: the statements are not yours to turn. If you find one false, say at which input.
  Laid BY PROGRAM, IN A SANDBOX (cutbox-rows.mjs): the forced cells as the released guide's own fill.sh prints them over the translation f1207b10bd052582… (all of the seat's roots in one cut). By AI agents, Wed Nov 11 2026. No macro, syntax, notation, axiom, sorry.
-/
import Derived.Test.YthenedanhcnccaaGreatChecked
import GoSem.Claim
import GoSem.ClaimJoined
import GoSem.ClaimMapViews
import Derived.JoinedTies
import Derived.KernelRfl
namespace Go.Proofs.YthenedanhcnccaaGreat
/- THE CELL 'sum', in the pinned program and in every row, IS THE sha256 OF THE DUMP (.gsa) THAT YthenedanhcnccaaGreatProg.lean LOADS. Nothing in Lean hashes anything: it is a label: what it is worth is what the hold of that sum in a sandbox is worth. -/
noncomputable def Tryz.pinned : Pinned := { name := "ythenedanhcnccaagreat", sum := "f1207b10bd0525822d7ad167ad872c45e4ccf62e3f5c714497e29fd63783ff0c", checked := Tryz.checked }
namespace Rows
def none {H : Type} : Left H := { results := [], args := [] }

/-- 'laws.FnExactIsBoundary': WHATEVER THE INPUT: true; the input reads as it did. -/
def fnExactIsBoundarySpec : ChangeSpec := { name := "fnExactIsBoundary", fn := fun _ => fun
  | [d1, d2] => { results := [.lit (.bool true)], args := [d1, d2] }
  | _ => none }
def fnExactIsBoundaryRow : OpenClaim := { program := "ythenedanhcnccaagreat", sum := "f1207b10bd0525822d7ad167ad872c45e4ccf62e3f5c714497e29fd63783ff0c", func := "loop.example/g01219/laws.FnExactIsBoundary", spec := "fnExactIsBoundary", unfollowed := true, recurses := true, plainKeys := false, apart := false }
def FnExactIsBoundarySaid : Prop := fnExactIsBoundaryRow.holds Tryz.pinned (OpenSpec.ofChange fnExactIsBoundarySpec)

/-- ITS FALSE NEIGHBOUR: 'it returns false'. Refute it at one input. -/
def fnExactIsBoundaryWrong : ChangeSpec := { name := "fnExactIsBoundary", fn := fun _ => fun
  | [d1, d2] => { results := [.lit (.bool false)], args := [d1, d2] }
  | _ => none }
def FnExactIsBoundaryWrongFalsely : Prop := fnExactIsBoundaryRow.holds Tryz.pinned (OpenSpec.ofChange fnExactIsBoundaryWrong)

/-- 'laws.FnExactBettiNumbers': WHATEVER THE INPUT: true; the input reads as it did. -/
def fnExactBettiNumbersSpec : ChangeSpec := { name := "fnExactBettiNumbers", fn := fun _ => fun
  | [d1, d2] => { results := [.lit (.bool true)], args := [d1, d2] }
  | _ => none }
def fnExactBettiNumbersRow : OpenClaim := { program := "ythenedanhcnccaagreat", sum := "f1207b10bd0525822d7ad167ad872c45e4ccf62e3f5c714497e29fd63783ff0c", func := "loop.example/g01219/laws.FnExactBettiNumbers", spec := "fnExactBettiNumbers", unfollowed := true, recurses := true, plainKeys := false, apart := false }
def FnExactBettiNumbersSaid : Prop := fnExactBettiNumbersRow.holds Tryz.pinned (OpenSpec.ofChange fnExactBettiNumbersSpec)

/-- ITS FALSE NEIGHBOUR: 'it returns false'. Refute it at one input. -/
def fnExactBettiNumbersWrong : ChangeSpec := { name := "fnExactBettiNumbers", fn := fun _ => fun
  | [d1, d2] => { results := [.lit (.bool false)], args := [d1, d2] }
  | _ => none }
def FnExactBettiNumbersWrongFalsely : Prop := fnExactBettiNumbersRow.holds Tryz.pinned (OpenSpec.ofChange fnExactBettiNumbersWrong)

/-- 'laws.FnExactClassOf': WHATEVER THE INPUT: true; the input reads as it did. -/
def fnExactClassOfSpec : ChangeSpec := { name := "fnExactClassOf", fn := fun _ => fun
  | [d1, d2] => { results := [.lit (.bool true)], args := [d1, d2] }
  | _ => none }
def fnExactClassOfRow : OpenClaim := { program := "ythenedanhcnccaagreat", sum := "f1207b10bd0525822d7ad167ad872c45e4ccf62e3f5c714497e29fd63783ff0c", func := "loop.example/g01219/laws.FnExactClassOf", spec := "fnExactClassOf", unfollowed := true, recurses := true, plainKeys := false, apart := false }
def FnExactClassOfSaid : Prop := fnExactClassOfRow.holds Tryz.pinned (OpenSpec.ofChange fnExactClassOfSpec)

/-- ITS FALSE NEIGHBOUR: 'it returns false'. Refute it at one input. -/
def fnExactClassOfWrong : ChangeSpec := { name := "fnExactClassOf", fn := fun _ => fun
  | [d1, d2] => { results := [.lit (.bool false)], args := [d1, d2] }
  | _ => none }
def FnExactClassOfWrongFalsely : Prop := fnExactClassOfRow.holds Tryz.pinned (OpenSpec.ofChange fnExactClassOfWrong)

/-- 'laws.FnExactHasDuality': WHATEVER THE INPUT: true; the input reads as it did. -/
def fnExactHasDualitySpec : ChangeSpec := { name := "fnExactHasDuality", fn := fun _ => fun
  | [d1, d2] => { results := [.lit (.bool true)], args := [d1, d2] }
  | _ => none }
def fnExactHasDualityRow : OpenClaim := { program := "ythenedanhcnccaagreat", sum := "f1207b10bd0525822d7ad167ad872c45e4ccf62e3f5c714497e29fd63783ff0c", func := "loop.example/g01219/laws.FnExactHasDuality", spec := "fnExactHasDuality", unfollowed := true, recurses := true, plainKeys := false, apart := false }
def FnExactHasDualitySaid : Prop := fnExactHasDualityRow.holds Tryz.pinned (OpenSpec.ofChange fnExactHasDualitySpec)

/-- ITS FALSE NEIGHBOUR: 'it returns false'. Refute it at one input. -/
def fnExactHasDualityWrong : ChangeSpec := { name := "fnExactHasDuality", fn := fun _ => fun
  | [d1, d2] => { results := [.lit (.bool false)], args := [d1, d2] }
  | _ => none }
def FnExactHasDualityWrongFalsely : Prop := fnExactHasDualityRow.holds Tryz.pinned (OpenSpec.ofChange fnExactHasDualityWrong)

/-- 'laws.FnExactProductOfClasses': WHATEVER THE INPUT: true; the input reads as it did. -/
def fnExactProductOfClassesSpec : ChangeSpec := { name := "fnExactProductOfClasses", fn := fun _ => fun
  | [d1, d2, d3, d4, d5] => { results := [.lit (.bool true)], args := [d1, d2, d3, d4, d5] }
  | _ => none }
def fnExactProductOfClassesRow : OpenClaim := { program := "ythenedanhcnccaagreat", sum := "f1207b10bd0525822d7ad167ad872c45e4ccf62e3f5c714497e29fd63783ff0c", func := "loop.example/g01219/laws.FnExactProductOfClasses", spec := "fnExactProductOfClasses", unfollowed := true, recurses := true, plainKeys := false, apart := false }
def FnExactProductOfClassesSaid : Prop := fnExactProductOfClassesRow.holds Tryz.pinned (OpenSpec.ofChange fnExactProductOfClassesSpec)

/-- ITS FALSE NEIGHBOUR: 'it returns false'. Refute it at one input. -/
def fnExactProductOfClassesWrong : ChangeSpec := { name := "fnExactProductOfClasses", fn := fun _ => fun
  | [d1, d2, d3, d4, d5] => { results := [.lit (.bool false)], args := [d1, d2, d3, d4, d5] }
  | _ => none }
def FnExactProductOfClassesWrongFalsely : Prop := fnExactProductOfClassesRow.holds Tryz.pinned (OpenSpec.ofChange fnExactProductOfClassesWrong)

/-- 'laws.FnExactLengthOfProducts': WHATEVER THE INPUT: true; the input reads as it did. -/
def fnExactLengthOfProductsSpec : ChangeSpec := { name := "fnExactLengthOfProducts", fn := fun _ => fun
  | [d1, d2] => { results := [.lit (.bool true)], args := [d1, d2] }
  | _ => none }
def fnExactLengthOfProductsRow : OpenClaim := { program := "ythenedanhcnccaagreat", sum := "f1207b10bd0525822d7ad167ad872c45e4ccf62e3f5c714497e29fd63783ff0c", func := "loop.example/g01219/laws.FnExactLengthOfProducts", spec := "fnExactLengthOfProducts", unfollowed := true, recurses := true, plainKeys := false, apart := false }
def FnExactLengthOfProductsSaid : Prop := fnExactLengthOfProductsRow.holds Tryz.pinned (OpenSpec.ofChange fnExactLengthOfProductsSpec)

/-- ITS FALSE NEIGHBOUR: 'it returns false'. Refute it at one input. -/
def fnExactLengthOfProductsWrong : ChangeSpec := { name := "fnExactLengthOfProducts", fn := fun _ => fun
  | [d1, d2] => { results := [.lit (.bool false)], args := [d1, d2] }
  | _ => none }
def FnExactLengthOfProductsWrongFalsely : Prop := fnExactLengthOfProductsRow.holds Tryz.pinned (OpenSpec.ofChange fnExactLengthOfProductsWrong)

/-- 'laws.FnExactProductTable': WHATEVER THE INPUT: true; the input reads as it did. -/
def fnExactProductTableSpec : ChangeSpec := { name := "fnExactProductTable", fn := fun _ => fun
  | [d1, d2, d3] => { results := [.lit (.bool true)], args := [d1, d2, d3] }
  | _ => none }
def fnExactProductTableRow : OpenClaim := { program := "ythenedanhcnccaagreat", sum := "f1207b10bd0525822d7ad167ad872c45e4ccf62e3f5c714497e29fd63783ff0c", func := "loop.example/g01219/laws.FnExactProductTable", spec := "fnExactProductTable", unfollowed := true, recurses := true, plainKeys := false, apart := false }
def FnExactProductTableSaid : Prop := fnExactProductTableRow.holds Tryz.pinned (OpenSpec.ofChange fnExactProductTableSpec)

/-- ITS FALSE NEIGHBOUR: 'it returns false'. Refute it at one input. -/
def fnExactProductTableWrong : ChangeSpec := { name := "fnExactProductTable", fn := fun _ => fun
  | [d1, d2, d3] => { results := [.lit (.bool false)], args := [d1, d2, d3] }
  | _ => none }
def FnExactProductTableWrongFalsely : Prop := fnExactProductTableRow.holds Tryz.pinned (OpenSpec.ofChange fnExactProductTableWrong)

/-- 'laws.FnExactMapRank': WHATEVER THE INPUT: true; the input reads as it did. -/
def fnExactMapRankSpec : ChangeSpec := { name := "fnExactMapRank", fn := fun _ => fun
  | [d1, d2, d3, d4] => { results := [.lit (.bool true)], args := [d1, d2, d3, d4] }
  | _ => none }
def fnExactMapRankRow : OpenClaim := { program := "ythenedanhcnccaagreat", sum := "f1207b10bd0525822d7ad167ad872c45e4ccf62e3f5c714497e29fd63783ff0c", func := "loop.example/g01219/laws.FnExactMapRank", spec := "fnExactMapRank", unfollowed := true, recurses := true, plainKeys := false, apart := false }
def FnExactMapRankSaid : Prop := fnExactMapRankRow.holds Tryz.pinned (OpenSpec.ofChange fnExactMapRankSpec)

/-- ITS FALSE NEIGHBOUR: 'it returns false'. Refute it at one input. -/
def fnExactMapRankWrong : ChangeSpec := { name := "fnExactMapRank", fn := fun _ => fun
  | [d1, d2, d3, d4] => { results := [.lit (.bool false)], args := [d1, d2, d3, d4] }
  | _ => none }
def FnExactMapRankWrongFalsely : Prop := fnExactMapRankRow.holds Tryz.pinned (OpenSpec.ofChange fnExactMapRankWrong)

/-- 'laws.FnExactIsIsomorphicTo': WHATEVER THE INPUT: true; the input reads as it did. -/
def fnExactIsIsomorphicToSpec : ChangeSpec := { name := "fnExactIsIsomorphicTo", fn := fun _ => fun
  | [d1, d2, d3, d4] => { results := [.lit (.bool true)], args := [d1, d2, d3, d4] }
  | _ => none }
def fnExactIsIsomorphicToRow : OpenClaim := { program := "ythenedanhcnccaagreat", sum := "f1207b10bd0525822d7ad167ad872c45e4ccf62e3f5c714497e29fd63783ff0c", func := "loop.example/g01219/laws.FnExactIsIsomorphicTo", spec := "fnExactIsIsomorphicTo", unfollowed := true, recurses := true, plainKeys := false, apart := false }
def FnExactIsIsomorphicToSaid : Prop := fnExactIsIsomorphicToRow.holds Tryz.pinned (OpenSpec.ofChange fnExactIsIsomorphicToSpec)

/-- ITS FALSE NEIGHBOUR: 'it returns false'. Refute it at one input. -/
def fnExactIsIsomorphicToWrong : ChangeSpec := { name := "fnExactIsIsomorphicTo", fn := fun _ => fun
  | [d1, d2, d3, d4] => { results := [.lit (.bool false)], args := [d1, d2, d3, d4] }
  | _ => none }
def FnExactIsIsomorphicToWrongFalsely : Prop := fnExactIsIsomorphicToRow.holds Tryz.pinned (OpenSpec.ofChange fnExactIsIsomorphicToWrong)

/-- 'laws.FnExactMapMatrix': WHATEVER THE INPUT: true; the input reads as it did. -/
def fnExactMapMatrixSpec : ChangeSpec := { name := "fnExactMapMatrix", fn := fun _ => fun
  | [d1, d2, d3, d4] => { results := [.lit (.bool true)], args := [d1, d2, d3, d4] }
  | _ => none }
def fnExactMapMatrixRow : OpenClaim := { program := "ythenedanhcnccaagreat", sum := "f1207b10bd0525822d7ad167ad872c45e4ccf62e3f5c714497e29fd63783ff0c", func := "loop.example/g01219/laws.FnExactMapMatrix", spec := "fnExactMapMatrix", unfollowed := true, recurses := true, plainKeys := false, apart := false }
def FnExactMapMatrixSaid : Prop := fnExactMapMatrixRow.holds Tryz.pinned (OpenSpec.ofChange fnExactMapMatrixSpec)

/-- ITS FALSE NEIGHBOUR: 'it returns false'. Refute it at one input. -/
def fnExactMapMatrixWrong : ChangeSpec := { name := "fnExactMapMatrix", fn := fun _ => fun
  | [d1, d2, d3, d4] => { results := [.lit (.bool false)], args := [d1, d2, d3, d4] }
  | _ => none }
def FnExactMapMatrixWrongFalsely : Prop := fnExactMapMatrixRow.holds Tryz.pinned (OpenSpec.ofChange fnExactMapMatrixWrong)

/-- 'laws.FnExactIndeterminacy': WHATEVER THE INPUT: true; the input reads as it did. -/
def fnExactIndeterminacySpec : ChangeSpec := { name := "fnExactIndeterminacy", fn := fun _ => fun
  | [d1, d2, d3, d4] => { results := [.lit (.bool true)], args := [d1, d2, d3, d4] }
  | _ => none }
def fnExactIndeterminacyRow : OpenClaim := { program := "ythenedanhcnccaagreat", sum := "f1207b10bd0525822d7ad167ad872c45e4ccf62e3f5c714497e29fd63783ff0c", func := "loop.example/g01219/laws.FnExactIndeterminacy", spec := "fnExactIndeterminacy", unfollowed := true, recurses := true, plainKeys := false, apart := false }
def FnExactIndeterminacySaid : Prop := fnExactIndeterminacyRow.holds Tryz.pinned (OpenSpec.ofChange fnExactIndeterminacySpec)

/-- ITS FALSE NEIGHBOUR: 'it returns false'. Refute it at one input. -/
def fnExactIndeterminacyWrong : ChangeSpec := { name := "fnExactIndeterminacy", fn := fun _ => fun
  | [d1, d2, d3, d4] => { results := [.lit (.bool false)], args := [d1, d2, d3, d4] }
  | _ => none }
def FnExactIndeterminacyWrongFalsely : Prop := fnExactIndeterminacyRow.holds Tryz.pinned (OpenSpec.ofChange fnExactIndeterminacyWrong)

/- THE SECOND FORM. 'bulk': how many values and letters a reading holds, each counted each time it is reached (what is shared counts as often as it is met; a slice's spare places count too). A statement '..UptoSaid' is the law's where the arguments, and the package variables that the reading takes, are together of bulk at most 1048576: NARROWER than '..Said'. Prove '..Said' where nothing that the law and all that it calls make is longer than what came in: it says more and counts as full. Else prove '..UptoSaid'. A law counts once. -/
mutual
def uptoBulk {H : Type} : DataW H → Nat
  | .lit (.string bytes) => bytes.length + 1
  | .lit _ => 1
  | .nil => 1
  | .ptr d => uptoBulk d + 1
  | .slice elems spare => uptoBulkAll elems + uptoBulkAll spare + 1
  | .agg parts => uptoBulkAll parts + 1
  | .iface _ d => uptoBulk d + 1
  | .map entries => uptoBulkEntries entries + 1
  | .held _ => 1
def uptoBulkAll {H : Type} : List (DataW H) → Nat
  | [] => 0
  | d :: r => uptoBulk d + uptoBulkAll r
def uptoBulkEntries {H : Type} : List (Lit × DataW H) → Nat
  | [] => 0
  | x :: r => uptoBulkEntry x + uptoBulkEntries r
def uptoBulkEntry {H : Type} : Lit × DataW H → Nat
  | (.string bytes, d) => bytes.length + uptoBulk d + 1
  | (_, d) => uptoBulk d + 1
 end
def uptoSmall : (H : Type) → List (DataW H) → Bool := fun _ ds => decide (uptoBulkAll ds ≤ 1048576)
def OpenSpec.upto (s : _root_.Go.ChangeSpec) : _root_.Go.OpenSpec := { _root_.Go.OpenSpec.ofChange s with cond := some uptoSmall }

/-- 'laws.FnExactIsBoundary', WHERE WHAT IT READS IS OF BULK AT MOST 1048576: true; the input reads as it did. -/
def fnExactIsBoundaryUptoRow : OpenClaim := { program := "ythenedanhcnccaagreat", sum := "f1207b10bd0525822d7ad167ad872c45e4ccf62e3f5c714497e29fd63783ff0c", func := "loop.example/g01219/laws.FnExactIsBoundary", spec := "fnExactIsBoundary", unfollowed := true, recurses := true, plainKeys := false, apart := false, narrowed := true }
def FnExactIsBoundaryUptoSaid : Prop := fnExactIsBoundaryUptoRow.holds Tryz.pinned (OpenSpec.upto fnExactIsBoundarySpec)

/-- 'laws.FnExactBettiNumbers', WHERE WHAT IT READS IS OF BULK AT MOST 1048576: true; the input reads as it did. -/
def fnExactBettiNumbersUptoRow : OpenClaim := { program := "ythenedanhcnccaagreat", sum := "f1207b10bd0525822d7ad167ad872c45e4ccf62e3f5c714497e29fd63783ff0c", func := "loop.example/g01219/laws.FnExactBettiNumbers", spec := "fnExactBettiNumbers", unfollowed := true, recurses := true, plainKeys := false, apart := false, narrowed := true }
def FnExactBettiNumbersUptoSaid : Prop := fnExactBettiNumbersUptoRow.holds Tryz.pinned (OpenSpec.upto fnExactBettiNumbersSpec)

/-- 'laws.FnExactClassOf', WHERE WHAT IT READS IS OF BULK AT MOST 1048576: true; the input reads as it did. -/
def fnExactClassOfUptoRow : OpenClaim := { program := "ythenedanhcnccaagreat", sum := "f1207b10bd0525822d7ad167ad872c45e4ccf62e3f5c714497e29fd63783ff0c", func := "loop.example/g01219/laws.FnExactClassOf", spec := "fnExactClassOf", unfollowed := true, recurses := true, plainKeys := false, apart := false, narrowed := true }
def FnExactClassOfUptoSaid : Prop := fnExactClassOfUptoRow.holds Tryz.pinned (OpenSpec.upto fnExactClassOfSpec)

/-- 'laws.FnExactHasDuality', WHERE WHAT IT READS IS OF BULK AT MOST 1048576: true; the input reads as it did. -/
def fnExactHasDualityUptoRow : OpenClaim := { program := "ythenedanhcnccaagreat", sum := "f1207b10bd0525822d7ad167ad872c45e4ccf62e3f5c714497e29fd63783ff0c", func := "loop.example/g01219/laws.FnExactHasDuality", spec := "fnExactHasDuality", unfollowed := true, recurses := true, plainKeys := false, apart := false, narrowed := true }
def FnExactHasDualityUptoSaid : Prop := fnExactHasDualityUptoRow.holds Tryz.pinned (OpenSpec.upto fnExactHasDualitySpec)

/-- 'laws.FnExactProductOfClasses', WHERE WHAT IT READS IS OF BULK AT MOST 1048576: true; the input reads as it did. -/
def fnExactProductOfClassesUptoRow : OpenClaim := { program := "ythenedanhcnccaagreat", sum := "f1207b10bd0525822d7ad167ad872c45e4ccf62e3f5c714497e29fd63783ff0c", func := "loop.example/g01219/laws.FnExactProductOfClasses", spec := "fnExactProductOfClasses", unfollowed := true, recurses := true, plainKeys := false, apart := false, narrowed := true }
def FnExactProductOfClassesUptoSaid : Prop := fnExactProductOfClassesUptoRow.holds Tryz.pinned (OpenSpec.upto fnExactProductOfClassesSpec)

/-- 'laws.FnExactLengthOfProducts', WHERE WHAT IT READS IS OF BULK AT MOST 1048576: true; the input reads as it did. -/
def fnExactLengthOfProductsUptoRow : OpenClaim := { program := "ythenedanhcnccaagreat", sum := "f1207b10bd0525822d7ad167ad872c45e4ccf62e3f5c714497e29fd63783ff0c", func := "loop.example/g01219/laws.FnExactLengthOfProducts", spec := "fnExactLengthOfProducts", unfollowed := true, recurses := true, plainKeys := false, apart := false, narrowed := true }
def FnExactLengthOfProductsUptoSaid : Prop := fnExactLengthOfProductsUptoRow.holds Tryz.pinned (OpenSpec.upto fnExactLengthOfProductsSpec)

/-- 'laws.FnExactProductTable', WHERE WHAT IT READS IS OF BULK AT MOST 1048576: true; the input reads as it did. -/
def fnExactProductTableUptoRow : OpenClaim := { program := "ythenedanhcnccaagreat", sum := "f1207b10bd0525822d7ad167ad872c45e4ccf62e3f5c714497e29fd63783ff0c", func := "loop.example/g01219/laws.FnExactProductTable", spec := "fnExactProductTable", unfollowed := true, recurses := true, plainKeys := false, apart := false, narrowed := true }
def FnExactProductTableUptoSaid : Prop := fnExactProductTableUptoRow.holds Tryz.pinned (OpenSpec.upto fnExactProductTableSpec)

/-- 'laws.FnExactMapRank', WHERE WHAT IT READS IS OF BULK AT MOST 1048576: true; the input reads as it did. -/
def fnExactMapRankUptoRow : OpenClaim := { program := "ythenedanhcnccaagreat", sum := "f1207b10bd0525822d7ad167ad872c45e4ccf62e3f5c714497e29fd63783ff0c", func := "loop.example/g01219/laws.FnExactMapRank", spec := "fnExactMapRank", unfollowed := true, recurses := true, plainKeys := false, apart := false, narrowed := true }
def FnExactMapRankUptoSaid : Prop := fnExactMapRankUptoRow.holds Tryz.pinned (OpenSpec.upto fnExactMapRankSpec)

/-- 'laws.FnExactIsIsomorphicTo', WHERE WHAT IT READS IS OF BULK AT MOST 1048576: true; the input reads as it did. -/
def fnExactIsIsomorphicToUptoRow : OpenClaim := { program := "ythenedanhcnccaagreat", sum := "f1207b10bd0525822d7ad167ad872c45e4ccf62e3f5c714497e29fd63783ff0c", func := "loop.example/g01219/laws.FnExactIsIsomorphicTo", spec := "fnExactIsIsomorphicTo", unfollowed := true, recurses := true, plainKeys := false, apart := false, narrowed := true }
def FnExactIsIsomorphicToUptoSaid : Prop := fnExactIsIsomorphicToUptoRow.holds Tryz.pinned (OpenSpec.upto fnExactIsIsomorphicToSpec)

/-- 'laws.FnExactMapMatrix', WHERE WHAT IT READS IS OF BULK AT MOST 1048576: true; the input reads as it did. -/
def fnExactMapMatrixUptoRow : OpenClaim := { program := "ythenedanhcnccaagreat", sum := "f1207b10bd0525822d7ad167ad872c45e4ccf62e3f5c714497e29fd63783ff0c", func := "loop.example/g01219/laws.FnExactMapMatrix", spec := "fnExactMapMatrix", unfollowed := true, recurses := true, plainKeys := false, apart := false, narrowed := true }
def FnExactMapMatrixUptoSaid : Prop := fnExactMapMatrixUptoRow.holds Tryz.pinned (OpenSpec.upto fnExactMapMatrixSpec)

/-- 'laws.FnExactIndeterminacy', WHERE WHAT IT READS IS OF BULK AT MOST 1048576: true; the input reads as it did. -/
def fnExactIndeterminacyUptoRow : OpenClaim := { program := "ythenedanhcnccaagreat", sum := "f1207b10bd0525822d7ad167ad872c45e4ccf62e3f5c714497e29fd63783ff0c", func := "loop.example/g01219/laws.FnExactIndeterminacy", spec := "fnExactIndeterminacy", unfollowed := true, recurses := true, plainKeys := false, apart := false, narrowed := true }
def FnExactIndeterminacyUptoSaid : Prop := fnExactIndeterminacyUptoRow.holds Tryz.pinned (OpenSpec.upto fnExactIndeterminacySpec)

end Rows
end Go.Proofs.YthenedanhcnccaaGreat
