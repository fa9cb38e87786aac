/-
  No cell of these rows narrows 'for every input' (looked for: loops, veiled, ifaces, maps, wideKeys, modest, calm, conditions, laid).
  DERIVED. THE GIVEN ROWS OF THIS SEAT. 15 by the template 'for every input the law returns true; each argument reads behind the call as it read before'; 0 by the template 'total and deterministic' (their statements: YtpojpokldncglaaTotals.lean).
  GIVEN WITH THE SEED: the statements are not yours to turn. If you find one false, say at which input.
  Laid BY PROGRAM, IN A SANDBOX (cutbox-rows.mjs): the forced cells as the released guide's own fill.sh prints them over the translation 79f8cf178497c9f6… (all of the seat's roots in one cut). By AI agents, Wed Nov 11 2026. No macro, syntax, notation, axiom, sorry.
-/
import Derived.Test.YtpojpokldncglaaChecked
import GoSem.Claim
import GoSem.ClaimJoined
import GoSem.ClaimMapViews
import Derived.JoinedTies
import Derived.KernelRfl
namespace Go.Proofs.Ytpojpokldncglaa
/- THE CELL 'sum', in the pinned program and in every row, IS THE sha256 OF THE DUMP (.gsa) THAT YtpojpokldncglaaProg.lean LOADS. Nothing in Lean hashes anything: it is a label: what it is worth is what the hold of that sum in a sandbox is worth. -/
noncomputable def Try.pinned : Pinned := { name := "ytpojpokldncglaa", sum := "79f8cf178497c9f6f5471fb5581ad965fccfd731f0352cc792e1644803227f5a", checked := Try.checked }
namespace Rows
def none {H : Type} : Left H := { results := [], args := [] }

/-- 'laws.FnExactPartOfForm': WHATEVER THE INPUT: true; the input reads as it did. -/
def fnExactPartOfFormSpec : ChangeSpec := { name := "fnExactPartOfForm", fn := fun _ => fun
  | [d1, d2, d3] => { results := [.lit (.bool true)], args := [d1, d2, d3] }
  | _ => none }
def fnExactPartOfFormRow : OpenClaim := { program := "ytpojpokldncglaa", sum := "79f8cf178497c9f6f5471fb5581ad965fccfd731f0352cc792e1644803227f5a", func := "loop.example/g01219/laws.FnExactPartOfForm", spec := "fnExactPartOfForm", unfollowed := true, recurses := true, plainKeys := false, apart := false }
def FnExactPartOfFormSaid : Prop := fnExactPartOfFormRow.holds Try.pinned (OpenSpec.ofChange fnExactPartOfFormSpec)

/-- ITS FALSE NEIGHBOUR: 'it returns false'. Refute it at one input. -/
def fnExactPartOfFormWrong : ChangeSpec := { name := "fnExactPartOfForm", fn := fun _ => fun
  | [d1, d2, d3] => { results := [.lit (.bool false)], args := [d1, d2, d3] }
  | _ => none }
def FnExactPartOfFormWrongFalsely : Prop := fnExactPartOfFormRow.holds Try.pinned (OpenSpec.ofChange fnExactPartOfFormWrong)

/-- 'laws.FnExactTorusModel': WHATEVER THE INPUT: true; the input reads as it did. -/
def fnExactTorusModelSpec : ChangeSpec := { name := "fnExactTorusModel", fn := fun _ => fun
  | [d] => { results := [.lit (.bool true)], args := [d] }
  | _ => none }
def fnExactTorusModelRow : OpenClaim := { program := "ytpojpokldncglaa", sum := "79f8cf178497c9f6f5471fb5581ad965fccfd731f0352cc792e1644803227f5a", func := "loop.example/g01219/laws.FnExactTorusModel", spec := "fnExactTorusModel", plainKeys := false, apart := false }
def FnExactTorusModelSaid : Prop := fnExactTorusModelRow.holds Try.pinned (OpenSpec.ofChange fnExactTorusModelSpec)

/-- ITS FALSE NEIGHBOUR: 'it returns false'. Refute it at one input. -/
def fnExactTorusModelWrong : ChangeSpec := { name := "fnExactTorusModel", fn := fun _ => fun
  | [d] => { results := [.lit (.bool false)], args := [d] }
  | _ => none }
def FnExactTorusModelWrongFalsely : Prop := fnExactTorusModelRow.holds Try.pinned (OpenSpec.ofChange fnExactTorusModelWrong)

/-- 'laws.FnExactIsAlgebra': WHATEVER THE INPUT: true; the input reads as it did. -/
def fnExactIsAlgebraSpec : ChangeSpec := { name := "fnExactIsAlgebra", fn := fun _ => fun
  | [d] => { results := [.lit (.bool true)], args := [d] }
  | _ => none }
def fnExactIsAlgebraRow : OpenClaim := { program := "ytpojpokldncglaa", sum := "79f8cf178497c9f6f5471fb5581ad965fccfd731f0352cc792e1644803227f5a", func := "loop.example/g01219/laws.FnExactIsAlgebra", spec := "fnExactIsAlgebra", unfollowed := true, recurses := true, plainKeys := false, apart := false }
def FnExactIsAlgebraSaid : Prop := fnExactIsAlgebraRow.holds Try.pinned (OpenSpec.ofChange fnExactIsAlgebraSpec)

/-- ITS FALSE NEIGHBOUR: 'it returns false'. Refute it at one input. -/
def fnExactIsAlgebraWrong : ChangeSpec := { name := "fnExactIsAlgebra", fn := fun _ => fun
  | [d] => { results := [.lit (.bool false)], args := [d] }
  | _ => none }
def FnExactIsAlgebraWrongFalsely : Prop := fnExactIsAlgebraRow.holds Try.pinned (OpenSpec.ofChange fnExactIsAlgebraWrong)

/-- 'laws.FnExactIsClosed': WHATEVER THE INPUT: true; the input reads as it did. -/
def fnExactIsClosedSpec : ChangeSpec := { name := "fnExactIsClosed", fn := fun _ => fun
  | [d1, d2] => { results := [.lit (.bool true)], args := [d1, d2] }
  | _ => none }
def fnExactIsClosedRow : OpenClaim := { program := "ytpojpokldncglaa", sum := "79f8cf178497c9f6f5471fb5581ad965fccfd731f0352cc792e1644803227f5a", func := "loop.example/g01219/laws.FnExactIsClosed", spec := "fnExactIsClosed", unfollowed := true, recurses := true, plainKeys := false, apart := false }
def FnExactIsClosedSaid : Prop := fnExactIsClosedRow.holds Try.pinned (OpenSpec.ofChange fnExactIsClosedSpec)

/-- ITS FALSE NEIGHBOUR: 'it returns false'. Refute it at one input. -/
def fnExactIsClosedWrong : ChangeSpec := { name := "fnExactIsClosed", fn := fun _ => fun
  | [d1, d2] => { results := [.lit (.bool false)], args := [d1, d2] }
  | _ => none }
def FnExactIsClosedWrongFalsely : Prop := fnExactIsClosedRow.holds Try.pinned (OpenSpec.ofChange fnExactIsClosedWrong)

/-- 'laws.FnExactWordLengthOf': WHATEVER THE INPUT: true; the input reads as it did. -/
def fnExactWordLengthOfSpec : ChangeSpec := { name := "fnExactWordLengthOf", fn := fun _ => fun
  | [d1, d2] => { results := [.lit (.bool true)], args := [d1, d2] }
  | _ => none }
def fnExactWordLengthOfRow : OpenClaim := { program := "ytpojpokldncglaa", sum := "79f8cf178497c9f6f5471fb5581ad965fccfd731f0352cc792e1644803227f5a", func := "loop.example/g01219/laws.FnExactWordLengthOf", spec := "fnExactWordLengthOf", unfollowed := true, recurses := true, plainKeys := false, apart := false }
def FnExactWordLengthOfSaid : Prop := fnExactWordLengthOfRow.holds Try.pinned (OpenSpec.ofChange fnExactWordLengthOfSpec)

/-- ITS FALSE NEIGHBOUR: 'it returns false'. Refute it at one input. -/
def fnExactWordLengthOfWrong : ChangeSpec := { name := "fnExactWordLengthOf", fn := fun _ => fun
  | [d1, d2] => { results := [.lit (.bool false)], args := [d1, d2] }
  | _ => none }
def FnExactWordLengthOfWrongFalsely : Prop := fnExactWordLengthOfRow.holds Try.pinned (OpenSpec.ofChange fnExactWordLengthOfWrong)

/-- 'laws.FnExactIsMinimal': WHATEVER THE INPUT: true; the input reads as it did. -/
def fnExactIsMinimalSpec : ChangeSpec := { name := "fnExactIsMinimal", fn := fun _ => fun
  | [d] => { results := [.lit (.bool true)], args := [d] }
  | _ => none }
def fnExactIsMinimalRow : OpenClaim := { program := "ytpojpokldncglaa", sum := "79f8cf178497c9f6f5471fb5581ad965fccfd731f0352cc792e1644803227f5a", func := "loop.example/g01219/laws.FnExactIsMinimal", spec := "fnExactIsMinimal", unfollowed := true, recurses := true, plainKeys := false, apart := false }
def FnExactIsMinimalSaid : Prop := fnExactIsMinimalRow.holds Try.pinned (OpenSpec.ofChange fnExactIsMinimalSpec)

/-- ITS FALSE NEIGHBOUR: 'it returns false'. Refute it at one input. -/
def fnExactIsMinimalWrong : ChangeSpec := { name := "fnExactIsMinimal", fn := fun _ => fun
  | [d] => { results := [.lit (.bool false)], args := [d] }
  | _ => none }
def FnExactIsMinimalWrongFalsely : Prop := fnExactIsMinimalRow.holds Try.pinned (OpenSpec.ofChange fnExactIsMinimalWrong)

/-- 'laws.FnExactRanksOf': WHATEVER THE INPUT: true; the input reads as it did. -/
def fnExactRanksOfSpec : ChangeSpec := { name := "fnExactRanksOf", fn := fun _ => fun
  | [d] => { results := [.lit (.bool true)], args := [d] }
  | _ => none }
def fnExactRanksOfRow : OpenClaim := { program := "ytpojpokldncglaa", sum := "79f8cf178497c9f6f5471fb5581ad965fccfd731f0352cc792e1644803227f5a", func := "loop.example/g01219/laws.FnExactRanksOf", spec := "fnExactRanksOf", unfollowed := true, recurses := true, plainKeys := false, apart := false }
def FnExactRanksOfSaid : Prop := fnExactRanksOfRow.holds Try.pinned (OpenSpec.ofChange fnExactRanksOfSpec)

/-- ITS FALSE NEIGHBOUR: 'it returns false'. Refute it at one input. -/
def fnExactRanksOfWrong : ChangeSpec := { name := "fnExactRanksOf", fn := fun _ => fun
  | [d] => { results := [.lit (.bool false)], args := [d] }
  | _ => none }
def FnExactRanksOfWrongFalsely : Prop := fnExactRanksOfRow.holds Try.pinned (OpenSpec.ofChange fnExactRanksOfWrong)

/-- 'laws.FnExactLinearTable': WHATEVER THE INPUT: true; the input reads as it did. -/
def fnExactLinearTableSpec : ChangeSpec := { name := "fnExactLinearTable", fn := fun _ => fun
  | [d] => { results := [.lit (.bool true)], args := [d] }
  | _ => none }
def fnExactLinearTableRow : OpenClaim := { program := "ytpojpokldncglaa", sum := "79f8cf178497c9f6f5471fb5581ad965fccfd731f0352cc792e1644803227f5a", func := "loop.example/g01219/laws.FnExactLinearTable", spec := "fnExactLinearTable", unfollowed := true, recurses := true, plainKeys := false, apart := false }
def FnExactLinearTableSaid : Prop := fnExactLinearTableRow.holds Try.pinned (OpenSpec.ofChange fnExactLinearTableSpec)

/-- ITS FALSE NEIGHBOUR: 'it returns false'. Refute it at one input. -/
def fnExactLinearTableWrong : ChangeSpec := { name := "fnExactLinearTable", fn := fun _ => fun
  | [d] => { results := [.lit (.bool false)], args := [d] }
  | _ => none }
def FnExactLinearTableWrongFalsely : Prop := fnExactLinearTableRow.holds Try.pinned (OpenSpec.ofChange fnExactLinearTableWrong)

/-- 'laws.FnExactFirstPair': WHATEVER THE INPUT: true; the input reads as it did. -/
def fnExactFirstPairSpec : ChangeSpec := { name := "fnExactFirstPair", fn := fun _ => fun
  | [d] => { results := [.lit (.bool true)], args := [d] }
  | _ => none }
def fnExactFirstPairRow : OpenClaim := { program := "ytpojpokldncglaa", sum := "79f8cf178497c9f6f5471fb5581ad965fccfd731f0352cc792e1644803227f5a", func := "loop.example/g01219/laws.FnExactFirstPair", spec := "fnExactFirstPair", unfollowed := true, recurses := true, plainKeys := false, apart := false }
def FnExactFirstPairSaid : Prop := fnExactFirstPairRow.holds Try.pinned (OpenSpec.ofChange fnExactFirstPairSpec)

/-- ITS FALSE NEIGHBOUR: 'it returns false'. Refute it at one input. -/
def fnExactFirstPairWrong : ChangeSpec := { name := "fnExactFirstPair", fn := fun _ => fun
  | [d] => { results := [.lit (.bool false)], args := [d] }
  | _ => none }
def FnExactFirstPairWrongFalsely : Prop := fnExactFirstPairRow.holds Try.pinned (OpenSpec.ofChange fnExactFirstPairWrong)

/-- 'laws.FnExactQuadraticParts': WHATEVER THE INPUT: true; the input reads as it did. -/
def fnExactQuadraticPartsSpec : ChangeSpec := { name := "fnExactQuadraticParts", fn := fun _ => fun
  | [d] => { results := [.lit (.bool true)], args := [d] }
  | _ => none }
def fnExactQuadraticPartsRow : OpenClaim := { program := "ytpojpokldncglaa", sum := "79f8cf178497c9f6f5471fb5581ad965fccfd731f0352cc792e1644803227f5a", func := "loop.example/g01219/laws.FnExactQuadraticParts", spec := "fnExactQuadraticParts", unfollowed := true, recurses := true, plainKeys := false, apart := false }
def FnExactQuadraticPartsSaid : Prop := fnExactQuadraticPartsRow.holds Try.pinned (OpenSpec.ofChange fnExactQuadraticPartsSpec)

/-- ITS FALSE NEIGHBOUR: 'it returns false'. Refute it at one input. -/
def fnExactQuadraticPartsWrong : ChangeSpec := { name := "fnExactQuadraticParts", fn := fun _ => fun
  | [d] => { results := [.lit (.bool false)], args := [d] }
  | _ => none }
def FnExactQuadraticPartsWrongFalsely : Prop := fnExactQuadraticPartsRow.holds Try.pinned (OpenSpec.ofChange fnExactQuadraticPartsWrong)

/-- 'laws.FnExactSubAlgebra': WHATEVER THE INPUT: true; the input reads as it did. -/
def fnExactSubAlgebraSpec : ChangeSpec := { name := "fnExactSubAlgebra", fn := fun _ => fun
  | [d1, d2] => { results := [.lit (.bool true)], args := [d1, d2] }
  | _ => none }
def fnExactSubAlgebraRow : OpenClaim := { program := "ytpojpokldncglaa", sum := "79f8cf178497c9f6f5471fb5581ad965fccfd731f0352cc792e1644803227f5a", func := "loop.example/g01219/laws.FnExactSubAlgebra", spec := "fnExactSubAlgebra", unfollowed := true, recurses := true, plainKeys := false, apart := false }
def FnExactSubAlgebraSaid : Prop := fnExactSubAlgebraRow.holds Try.pinned (OpenSpec.ofChange fnExactSubAlgebraSpec)

/-- ITS FALSE NEIGHBOUR: 'it returns false'. Refute it at one input. -/
def fnExactSubAlgebraWrong : ChangeSpec := { name := "fnExactSubAlgebra", fn := fun _ => fun
  | [d1, d2] => { results := [.lit (.bool false)], args := [d1, d2] }
  | _ => none }
def FnExactSubAlgebraWrongFalsely : Prop := fnExactSubAlgebraRow.holds Try.pinned (OpenSpec.ofChange fnExactSubAlgebraWrong)

/-- 'laws.FnExactWithGenerator': WHATEVER THE INPUT: true; the input reads as it did. -/
def fnExactWithGeneratorSpec : ChangeSpec := { name := "fnExactWithGenerator", fn := fun _ => fun
  | [d1, d2, d3] => { results := [.lit (.bool true)], args := [d1, d2, d3] }
  | _ => none }
def fnExactWithGeneratorRow : OpenClaim := { program := "ytpojpokldncglaa", sum := "79f8cf178497c9f6f5471fb5581ad965fccfd731f0352cc792e1644803227f5a", func := "loop.example/g01219/laws.FnExactWithGenerator", spec := "fnExactWithGenerator", unfollowed := true, recurses := true, plainKeys := false, apart := false }
def FnExactWithGeneratorSaid : Prop := fnExactWithGeneratorRow.holds Try.pinned (OpenSpec.ofChange fnExactWithGeneratorSpec)

/-- ITS FALSE NEIGHBOUR: 'it returns false'. Refute it at one input. -/
def fnExactWithGeneratorWrong : ChangeSpec := { name := "fnExactWithGenerator", fn := fun _ => fun
  | [d1, d2, d3] => { results := [.lit (.bool false)], args := [d1, d2, d3] }
  | _ => none }
def FnExactWithGeneratorWrongFalsely : Prop := fnExactWithGeneratorRow.holds Try.pinned (OpenSpec.ofChange fnExactWithGeneratorWrong)

/-- 'laws.FnExactProductOfAlgebras': WHATEVER THE INPUT: true; the input reads as it did. -/
def fnExactProductOfAlgebrasSpec : ChangeSpec := { name := "fnExactProductOfAlgebras", fn := fun _ => fun
  | [d1, d2] => { results := [.lit (.bool true)], args := [d1, d2] }
  | _ => none }
def fnExactProductOfAlgebrasRow : OpenClaim := { program := "ytpojpokldncglaa", sum := "79f8cf178497c9f6f5471fb5581ad965fccfd731f0352cc792e1644803227f5a", func := "loop.example/g01219/laws.FnExactProductOfAlgebras", spec := "fnExactProductOfAlgebras", unfollowed := true, recurses := true, plainKeys := false, apart := false }
def FnExactProductOfAlgebrasSaid : Prop := fnExactProductOfAlgebrasRow.holds Try.pinned (OpenSpec.ofChange fnExactProductOfAlgebrasSpec)

/-- ITS FALSE NEIGHBOUR: 'it returns false'. Refute it at one input. -/
def fnExactProductOfAlgebrasWrong : ChangeSpec := { name := "fnExactProductOfAlgebras", fn := fun _ => fun
  | [d1, d2] => { results := [.lit (.bool false)], args := [d1, d2] }
  | _ => none }
def FnExactProductOfAlgebrasWrongFalsely : Prop := fnExactProductOfAlgebrasRow.holds Try.pinned (OpenSpec.ofChange fnExactProductOfAlgebrasWrong)

/-- 'laws.FnExactIsMap': WHATEVER THE INPUT: true; the input reads as it did. -/
def fnExactIsMapSpec : ChangeSpec := { name := "fnExactIsMap", fn := fun _ => fun
  | [d1, d2, d3] => { results := [.lit (.bool true)], args := [d1, d2, d3] }
  | _ => none }
def fnExactIsMapRow : OpenClaim := { program := "ytpojpokldncglaa", sum := "79f8cf178497c9f6f5471fb5581ad965fccfd731f0352cc792e1644803227f5a", func := "loop.example/g01219/laws.FnExactIsMap", spec := "fnExactIsMap", unfollowed := true, recurses := true, plainKeys := false, apart := false }
def FnExactIsMapSaid : Prop := fnExactIsMapRow.holds Try.pinned (OpenSpec.ofChange fnExactIsMapSpec)

/-- ITS FALSE NEIGHBOUR: 'it returns false'. Refute it at one input. -/
def fnExactIsMapWrong : ChangeSpec := { name := "fnExactIsMap", fn := fun _ => fun
  | [d1, d2, d3] => { results := [.lit (.bool false)], args := [d1, d2, d3] }
  | _ => none }
def FnExactIsMapWrongFalsely : Prop := fnExactIsMapRow.holds Try.pinned (OpenSpec.ofChange fnExactIsMapWrong)

/-- 'laws.FnExactLinearTableOfMap': WHATEVER THE INPUT: true; the input reads as it did. -/
def fnExactLinearTableOfMapSpec : ChangeSpec := { name := "fnExactLinearTableOfMap", fn := fun _ => fun
  | [d1, d2, d3] => { results := [.lit (.bool true)], args := [d1, d2, d3] }
  | _ => none }
def fnExactLinearTableOfMapRow : OpenClaim := { program := "ytpojpokldncglaa", sum := "79f8cf178497c9f6f5471fb5581ad965fccfd731f0352cc792e1644803227f5a", func := "loop.example/g01219/laws.FnExactLinearTableOfMap", spec := "fnExactLinearTableOfMap", unfollowed := true, recurses := true, plainKeys := false, apart := false }
def FnExactLinearTableOfMapSaid : Prop := fnExactLinearTableOfMapRow.holds Try.pinned (OpenSpec.ofChange fnExactLinearTableOfMapSpec)

/-- ITS FALSE NEIGHBOUR: 'it returns false'. Refute it at one input. -/
def fnExactLinearTableOfMapWrong : ChangeSpec := { name := "fnExactLinearTableOfMap", fn := fun _ => fun
  | [d1, d2, d3] => { results := [.lit (.bool false)], args := [d1, d2, d3] }
  | _ => none }
def FnExactLinearTableOfMapWrongFalsely : Prop := fnExactLinearTableOfMapRow.holds Try.pinned (OpenSpec.ofChange fnExactLinearTableOfMapWrong)

/- THE SECOND FORM. 'bulk': how many values and letters a reading holds, each counted each time it is reached (what is shared counts as often as it is met; a slice's spare places count too). A statement '..UptoSaid' is the law's where the arguments, and the package variables that the reading takes, are together of bulk at most 1048576: NARROWER than '..Said'. Prove '..Said' where nothing that the law and all that it calls make is longer than what came in: it says more and counts as full. Else prove '..UptoSaid'. A law counts once. -/
mutual
def uptoBulk {H : Type} : DataW H → Nat
  | .lit (.string bytes) => bytes.length + 1
  | .lit _ => 1
  | .nil => 1
  | .ptr d => uptoBulk d + 1
  | .slice elems spare => uptoBulkAll elems + uptoBulkAll spare + 1
  | .agg parts => uptoBulkAll parts + 1
  | .iface _ d => uptoBulk d + 1
  | .map entries => uptoBulkEntries entries + 1
  | .held _ => 1
def uptoBulkAll {H : Type} : List (DataW H) → Nat
  | [] => 0
  | d :: r => uptoBulk d + uptoBulkAll r
def uptoBulkEntries {H : Type} : List (Lit × DataW H) → Nat
  | [] => 0
  | x :: r => uptoBulkEntry x + uptoBulkEntries r
def uptoBulkEntry {H : Type} : Lit × DataW H → Nat
  | (.string bytes, d) => bytes.length + uptoBulk d + 1
  | (_, d) => uptoBulk d + 1
 end
def uptoSmall : (H : Type) → List (DataW H) → Bool := fun _ ds => decide (uptoBulkAll ds ≤ 1048576)
def OpenSpec.upto (s : _root_.Go.ChangeSpec) : _root_.Go.OpenSpec := { _root_.Go.OpenSpec.ofChange s with cond := some uptoSmall }

/-- 'laws.FnExactPartOfForm', WHERE WHAT IT READS IS OF BULK AT MOST 1048576: true; the input reads as it did. -/
def fnExactPartOfFormUptoRow : OpenClaim := { program := "ytpojpokldncglaa", sum := "79f8cf178497c9f6f5471fb5581ad965fccfd731f0352cc792e1644803227f5a", func := "loop.example/g01219/laws.FnExactPartOfForm", spec := "fnExactPartOfForm", unfollowed := true, recurses := true, plainKeys := false, apart := false, narrowed := true }
def FnExactPartOfFormUptoSaid : Prop := fnExactPartOfFormUptoRow.holds Try.pinned (OpenSpec.upto fnExactPartOfFormSpec)

/-- 'laws.FnExactTorusModel', WHERE WHAT IT READS IS OF BULK AT MOST 1048576: true; the input reads as it did. -/
def fnExactTorusModelUptoRow : OpenClaim := { program := "ytpojpokldncglaa", sum := "79f8cf178497c9f6f5471fb5581ad965fccfd731f0352cc792e1644803227f5a", func := "loop.example/g01219/laws.FnExactTorusModel", spec := "fnExactTorusModel", plainKeys := false, apart := false, narrowed := true }
def FnExactTorusModelUptoSaid : Prop := fnExactTorusModelUptoRow.holds Try.pinned (OpenSpec.upto fnExactTorusModelSpec)

/-- 'laws.FnExactIsAlgebra', WHERE WHAT IT READS IS OF BULK AT MOST 1048576: true; the input reads as it did. -/
def fnExactIsAlgebraUptoRow : OpenClaim := { program := "ytpojpokldncglaa", sum := "79f8cf178497c9f6f5471fb5581ad965fccfd731f0352cc792e1644803227f5a", func := "loop.example/g01219/laws.FnExactIsAlgebra", spec := "fnExactIsAlgebra", unfollowed := true, recurses := true, plainKeys := false, apart := false, narrowed := true }
def FnExactIsAlgebraUptoSaid : Prop := fnExactIsAlgebraUptoRow.holds Try.pinned (OpenSpec.upto fnExactIsAlgebraSpec)

/-- 'laws.FnExactIsClosed', WHERE WHAT IT READS IS OF BULK AT MOST 1048576: true; the input reads as it did. -/
def fnExactIsClosedUptoRow : OpenClaim := { program := "ytpojpokldncglaa", sum := "79f8cf178497c9f6f5471fb5581ad965fccfd731f0352cc792e1644803227f5a", func := "loop.example/g01219/laws.FnExactIsClosed", spec := "fnExactIsClosed", unfollowed := true, recurses := true, plainKeys := false, apart := false, narrowed := true }
def FnExactIsClosedUptoSaid : Prop := fnExactIsClosedUptoRow.holds Try.pinned (OpenSpec.upto fnExactIsClosedSpec)

/-- 'laws.FnExactWordLengthOf', WHERE WHAT IT READS IS OF BULK AT MOST 1048576: true; the input reads as it did. -/
def fnExactWordLengthOfUptoRow : OpenClaim := { program := "ytpojpokldncglaa", sum := "79f8cf178497c9f6f5471fb5581ad965fccfd731f0352cc792e1644803227f5a", func := "loop.example/g01219/laws.FnExactWordLengthOf", spec := "fnExactWordLengthOf", unfollowed := true, recurses := true, plainKeys := false, apart := false, narrowed := true }
def FnExactWordLengthOfUptoSaid : Prop := fnExactWordLengthOfUptoRow.holds Try.pinned (OpenSpec.upto fnExactWordLengthOfSpec)

/-- 'laws.FnExactIsMinimal', WHERE WHAT IT READS IS OF BULK AT MOST 1048576: true; the input reads as it did. -/
def fnExactIsMinimalUptoRow : OpenClaim := { program := "ytpojpokldncglaa", sum := "79f8cf178497c9f6f5471fb5581ad965fccfd731f0352cc792e1644803227f5a", func := "loop.example/g01219/laws.FnExactIsMinimal", spec := "fnExactIsMinimal", unfollowed := true, recurses := true, plainKeys := false, apart := false, narrowed := true }
def FnExactIsMinimalUptoSaid : Prop := fnExactIsMinimalUptoRow.holds Try.pinned (OpenSpec.upto fnExactIsMinimalSpec)

/-- 'laws.FnExactRanksOf', WHERE WHAT IT READS IS OF BULK AT MOST 1048576: true; the input reads as it did. -/
def fnExactRanksOfUptoRow : OpenClaim := { program := "ytpojpokldncglaa", sum := "79f8cf178497c9f6f5471fb5581ad965fccfd731f0352cc792e1644803227f5a", func := "loop.example/g01219/laws.FnExactRanksOf", spec := "fnExactRanksOf", unfollowed := true, recurses := true, plainKeys := false, apart := false, narrowed := true }
def FnExactRanksOfUptoSaid : Prop := fnExactRanksOfUptoRow.holds Try.pinned (OpenSpec.upto fnExactRanksOfSpec)

/-- 'laws.FnExactLinearTable', WHERE WHAT IT READS IS OF BULK AT MOST 1048576: true; the input reads as it did. -/
def fnExactLinearTableUptoRow : OpenClaim := { program := "ytpojpokldncglaa", sum := "79f8cf178497c9f6f5471fb5581ad965fccfd731f0352cc792e1644803227f5a", func := "loop.example/g01219/laws.FnExactLinearTable", spec := "fnExactLinearTable", unfollowed := true, recurses := true, plainKeys := false, apart := false, narrowed := true }
def FnExactLinearTableUptoSaid : Prop := fnExactLinearTableUptoRow.holds Try.pinned (OpenSpec.upto fnExactLinearTableSpec)

/-- 'laws.FnExactFirstPair', WHERE WHAT IT READS IS OF BULK AT MOST 1048576: true; the input reads as it did. -/
def fnExactFirstPairUptoRow : OpenClaim := { program := "ytpojpokldncglaa", sum := "79f8cf178497c9f6f5471fb5581ad965fccfd731f0352cc792e1644803227f5a", func := "loop.example/g01219/laws.FnExactFirstPair", spec := "fnExactFirstPair", unfollowed := true, recurses := true, plainKeys := false, apart := false, narrowed := true }
def FnExactFirstPairUptoSaid : Prop := fnExactFirstPairUptoRow.holds Try.pinned (OpenSpec.upto fnExactFirstPairSpec)

/-- 'laws.FnExactQuadraticParts', WHERE WHAT IT READS IS OF BULK AT MOST 1048576: true; the input reads as it did. -/
def fnExactQuadraticPartsUptoRow : OpenClaim := { program := "ytpojpokldncglaa", sum := "79f8cf178497c9f6f5471fb5581ad965fccfd731f0352cc792e1644803227f5a", func := "loop.example/g01219/laws.FnExactQuadraticParts", spec := "fnExactQuadraticParts", unfollowed := true, recurses := true, plainKeys := false, apart := false, narrowed := true }
def FnExactQuadraticPartsUptoSaid : Prop := fnExactQuadraticPartsUptoRow.holds Try.pinned (OpenSpec.upto fnExactQuadraticPartsSpec)

/-- 'laws.FnExactSubAlgebra', WHERE WHAT IT READS IS OF BULK AT MOST 1048576: true; the input reads as it did. -/
def fnExactSubAlgebraUptoRow : OpenClaim := { program := "ytpojpokldncglaa", sum := "79f8cf178497c9f6f5471fb5581ad965fccfd731f0352cc792e1644803227f5a", func := "loop.example/g01219/laws.FnExactSubAlgebra", spec := "fnExactSubAlgebra", unfollowed := true, recurses := true, plainKeys := false, apart := false, narrowed := true }
def FnExactSubAlgebraUptoSaid : Prop := fnExactSubAlgebraUptoRow.holds Try.pinned (OpenSpec.upto fnExactSubAlgebraSpec)

/-- 'laws.FnExactWithGenerator', WHERE WHAT IT READS IS OF BULK AT MOST 1048576: true; the input reads as it did. -/
def fnExactWithGeneratorUptoRow : OpenClaim := { program := "ytpojpokldncglaa", sum := "79f8cf178497c9f6f5471fb5581ad965fccfd731f0352cc792e1644803227f5a", func := "loop.example/g01219/laws.FnExactWithGenerator", spec := "fnExactWithGenerator", unfollowed := true, recurses := true, plainKeys := false, apart := false, narrowed := true }
def FnExactWithGeneratorUptoSaid : Prop := fnExactWithGeneratorUptoRow.holds Try.pinned (OpenSpec.upto fnExactWithGeneratorSpec)

/-- 'laws.FnExactProductOfAlgebras', WHERE WHAT IT READS IS OF BULK AT MOST 1048576: true; the input reads as it did. -/
def fnExactProductOfAlgebrasUptoRow : OpenClaim := { program := "ytpojpokldncglaa", sum := "79f8cf178497c9f6f5471fb5581ad965fccfd731f0352cc792e1644803227f5a", func := "loop.example/g01219/laws.FnExactProductOfAlgebras", spec := "fnExactProductOfAlgebras", unfollowed := true, recurses := true, plainKeys := false, apart := false, narrowed := true }
def FnExactProductOfAlgebrasUptoSaid : Prop := fnExactProductOfAlgebrasUptoRow.holds Try.pinned (OpenSpec.upto fnExactProductOfAlgebrasSpec)

/-- 'laws.FnExactIsMap', WHERE WHAT IT READS IS OF BULK AT MOST 1048576: true; the input reads as it did. -/
def fnExactIsMapUptoRow : OpenClaim := { program := "ytpojpokldncglaa", sum := "79f8cf178497c9f6f5471fb5581ad965fccfd731f0352cc792e1644803227f5a", func := "loop.example/g01219/laws.FnExactIsMap", spec := "fnExactIsMap", unfollowed := true, recurses := true, plainKeys := false, apart := false, narrowed := true }
def FnExactIsMapUptoSaid : Prop := fnExactIsMapUptoRow.holds Try.pinned (OpenSpec.upto fnExactIsMapSpec)

/-- 'laws.FnExactLinearTableOfMap', WHERE WHAT IT READS IS OF BULK AT MOST 1048576: true; the input reads as it did. -/
def fnExactLinearTableOfMapUptoRow : OpenClaim := { program := "ytpojpokldncglaa", sum := "79f8cf178497c9f6f5471fb5581ad965fccfd731f0352cc792e1644803227f5a", func := "loop.example/g01219/laws.FnExactLinearTableOfMap", spec := "fnExactLinearTableOfMap", unfollowed := true, recurses := true, plainKeys := false, apart := false, narrowed := true }
def FnExactLinearTableOfMapUptoSaid : Prop := fnExactLinearTableOfMapUptoRow.holds Try.pinned (OpenSpec.upto fnExactLinearTableOfMapSpec)

end Rows
end Go.Proofs.Ytpojpokldncglaa
