/-
  No cell of these rows narrows 'for every input' (looked for: loops, veiled, ifaces, maps, wideKeys, modest, calm, conditions, laid).
  DERIVED. THE GIVEN ROWS OF THIS SEAT. 12 by the template 'for every input the law returns true; each argument reads behind the call as it read before'; 0 by the template 'total and deterministic' (their statements: YtodmnjbchegnaaaTotals.lean).
  GIVEN WITH THE SEED: the statements are not yours to turn. If you find one false, say at which input.
  Laid BY PROGRAM, IN A SANDBOX (cutbox-rows.mjs): the forced cells as the released guide's own fill.sh prints them over the translation 8ffc55213a14721a… (all of the seat's roots in one cut). By AI agents, Wed Nov 11 2026. No macro, syntax, notation, axiom, sorry.
-/
import Derived.Test.YtodmnjbchegnaaaChecked
import GoSem.Claim
import GoSem.ClaimJoined
import GoSem.ClaimMapViews
import Derived.JoinedTies
import Derived.KernelRfl
namespace Go.Proofs.Ytodmnjbchegnaaa
/- THE CELL 'sum', in the pinned program and in every row, IS THE sha256 OF THE DUMP (.gsa) THAT YtodmnjbchegnaaaProg.lean LOADS. Nothing in Lean hashes anything: it is a label: what it is worth is what the hold of that sum in a sandbox is worth. -/
noncomputable def Try.pinned : Pinned := { name := "ytodmnjbchegnaaa", sum := "8ffc55213a14721ae69df24484acc08175cd3e0f1d4695becbe08722743b485b", checked := Try.checked }
namespace Rows
def none {H : Type} : Left H := { results := [], args := [] }

/-- 'laws.FnExactConstants': WHATEVER THE INPUT: true; the input reads as it did. -/
def fnExactConstantsSpec : ChangeSpec := { name := "fnExactConstants", fn := fun _ => fun
  | [] => { results := [.lit (.bool true)], args := [] }
  | _ => none }
def fnExactConstantsRow : OpenClaim := { program := "ytodmnjbchegnaaa", sum := "8ffc55213a14721ae69df24484acc08175cd3e0f1d4695becbe08722743b485b", func := "loop.example/g01219/laws.FnExactConstants", spec := "fnExactConstants", apart := false }
def FnExactConstantsSaid : Prop := fnExactConstantsRow.holds Try.pinned (OpenSpec.ofChange fnExactConstantsSpec)

/-- ITS FALSE NEIGHBOUR: 'it returns false'. Refute it at one input. -/
def fnExactConstantsWrong : ChangeSpec := { name := "fnExactConstants", fn := fun _ => fun
  | [] => { results := [.lit (.bool false)], args := [] }
  | _ => none }
def FnExactConstantsWrongFalsely : Prop := fnExactConstantsRow.holds Try.pinned (OpenSpec.ofChange fnExactConstantsWrong)

/-- 'laws.FnExactInverseNumber': WHATEVER THE INPUT: true; the input reads as it did. -/
def fnExactInverseNumberSpec : ChangeSpec := { name := "fnExactInverseNumber", fn := fun _ => fun
  | [d] => { results := [.lit (.bool true)], args := [d] }
  | _ => none }
def fnExactInverseNumberRow : OpenClaim := { program := "ytodmnjbchegnaaa", sum := "8ffc55213a14721ae69df24484acc08175cd3e0f1d4695becbe08722743b485b", func := "loop.example/g01219/laws.FnExactInverseNumber", spec := "fnExactInverseNumber", apart := false }
def FnExactInverseNumberSaid : Prop := fnExactInverseNumberRow.holds Try.pinned (OpenSpec.ofChange fnExactInverseNumberSpec)

/-- ITS FALSE NEIGHBOUR: 'it returns false'. Refute it at one input. -/
def fnExactInverseNumberWrong : ChangeSpec := { name := "fnExactInverseNumber", fn := fun _ => fun
  | [d] => { results := [.lit (.bool false)], args := [d] }
  | _ => none }
def FnExactInverseNumberWrongFalsely : Prop := fnExactInverseNumberRow.holds Try.pinned (OpenSpec.ofChange fnExactInverseNumberWrong)

/-- 'laws.FnExactAreDegrees': WHATEVER THE INPUT: true; the input reads as it did. -/
def fnExactAreDegreesSpec : ChangeSpec := { name := "fnExactAreDegrees", fn := fun _ => fun
  | [d] => { results := [.lit (.bool true)], args := [d] }
  | _ => none }
def fnExactAreDegreesRow : OpenClaim := { program := "ytodmnjbchegnaaa", sum := "8ffc55213a14721ae69df24484acc08175cd3e0f1d4695becbe08722743b485b", func := "loop.example/g01219/laws.FnExactAreDegrees", spec := "fnExactAreDegrees", unfollowed := true, recurses := true, apart := false }
def FnExactAreDegreesSaid : Prop := fnExactAreDegreesRow.holds Try.pinned (OpenSpec.ofChange fnExactAreDegreesSpec)

/-- ITS FALSE NEIGHBOUR: 'it returns false'. Refute it at one input. -/
def fnExactAreDegreesWrong : ChangeSpec := { name := "fnExactAreDegrees", fn := fun _ => fun
  | [d] => { results := [.lit (.bool false)], args := [d] }
  | _ => none }
def FnExactAreDegreesWrongFalsely : Prop := fnExactAreDegreesRow.holds Try.pinned (OpenSpec.ofChange fnExactAreDegreesWrong)

/-- 'laws.FnExactIsMonomial': WHATEVER THE INPUT: true; the input reads as it did. -/
def fnExactIsMonomialSpec : ChangeSpec := { name := "fnExactIsMonomial", fn := fun _ => fun
  | [d1, d2] => { results := [.lit (.bool true)], args := [d1, d2] }
  | _ => none }
def fnExactIsMonomialRow : OpenClaim := { program := "ytodmnjbchegnaaa", sum := "8ffc55213a14721ae69df24484acc08175cd3e0f1d4695becbe08722743b485b", func := "loop.example/g01219/laws.FnExactIsMonomial", spec := "fnExactIsMonomial", unfollowed := true, recurses := true, apart := false }
def FnExactIsMonomialSaid : Prop := fnExactIsMonomialRow.holds Try.pinned (OpenSpec.ofChange fnExactIsMonomialSpec)

/-- ITS FALSE NEIGHBOUR: 'it returns false'. Refute it at one input. -/
def fnExactIsMonomialWrong : ChangeSpec := { name := "fnExactIsMonomial", fn := fun _ => fun
  | [d1, d2] => { results := [.lit (.bool false)], args := [d1, d2] }
  | _ => none }
def FnExactIsMonomialWrongFalsely : Prop := fnExactIsMonomialRow.holds Try.pinned (OpenSpec.ofChange fnExactIsMonomialWrong)

/-- 'laws.FnExactDegreeOfMonomial': WHATEVER THE INPUT: true; the input reads as it did. -/
def fnExactDegreeOfMonomialSpec : ChangeSpec := { name := "fnExactDegreeOfMonomial", fn := fun _ => fun
  | [d1, d2] => { results := [.lit (.bool true)], args := [d1, d2] }
  | _ => none }
def fnExactDegreeOfMonomialRow : OpenClaim := { program := "ytodmnjbchegnaaa", sum := "8ffc55213a14721ae69df24484acc08175cd3e0f1d4695becbe08722743b485b", func := "loop.example/g01219/laws.FnExactDegreeOfMonomial", spec := "fnExactDegreeOfMonomial", unfollowed := true, recurses := true, apart := false }
def FnExactDegreeOfMonomialSaid : Prop := fnExactDegreeOfMonomialRow.holds Try.pinned (OpenSpec.ofChange fnExactDegreeOfMonomialSpec)

/-- ITS FALSE NEIGHBOUR: 'it returns false'. Refute it at one input. -/
def fnExactDegreeOfMonomialWrong : ChangeSpec := { name := "fnExactDegreeOfMonomial", fn := fun _ => fun
  | [d1, d2] => { results := [.lit (.bool false)], args := [d1, d2] }
  | _ => none }
def FnExactDegreeOfMonomialWrongFalsely : Prop := fnExactDegreeOfMonomialRow.holds Try.pinned (OpenSpec.ofChange fnExactDegreeOfMonomialWrong)

/-- 'laws.FnExactFreeSeries': WHATEVER THE INPUT: true; the input reads as it did. -/
def fnExactFreeSeriesSpec : ChangeSpec := { name := "fnExactFreeSeries", fn := fun _ => fun
  | [d1, d2] => { results := [.lit (.bool true)], args := [d1, d2] }
  | _ => none }
def fnExactFreeSeriesRow : OpenClaim := { program := "ytodmnjbchegnaaa", sum := "8ffc55213a14721ae69df24484acc08175cd3e0f1d4695becbe08722743b485b", func := "loop.example/g01219/laws.FnExactFreeSeries", spec := "fnExactFreeSeries", unfollowed := true, recurses := true, apart := false }
def FnExactFreeSeriesSaid : Prop := fnExactFreeSeriesRow.holds Try.pinned (OpenSpec.ofChange fnExactFreeSeriesSpec)

/-- ITS FALSE NEIGHBOUR: 'it returns false'. Refute it at one input. -/
def fnExactFreeSeriesWrong : ChangeSpec := { name := "fnExactFreeSeries", fn := fun _ => fun
  | [d1, d2] => { results := [.lit (.bool false)], args := [d1, d2] }
  | _ => none }
def FnExactFreeSeriesWrongFalsely : Prop := fnExactFreeSeriesRow.holds Try.pinned (OpenSpec.ofChange fnExactFreeSeriesWrong)

/-- 'laws.FnExactUnitaryModel': WHATEVER THE INPUT: true; the input reads as it did. -/
def fnExactUnitaryModelSpec : ChangeSpec := { name := "fnExactUnitaryModel", fn := fun _ => fun
  | [d] => { results := [.lit (.bool true)], args := [d] }
  | _ => none }
def fnExactUnitaryModelRow : OpenClaim := { program := "ytodmnjbchegnaaa", sum := "8ffc55213a14721ae69df24484acc08175cd3e0f1d4695becbe08722743b485b", func := "loop.example/g01219/laws.FnExactUnitaryModel", spec := "fnExactUnitaryModel", apart := false }
def FnExactUnitaryModelSaid : Prop := fnExactUnitaryModelRow.holds Try.pinned (OpenSpec.ofChange fnExactUnitaryModelSpec)

/-- ITS FALSE NEIGHBOUR: 'it returns false'. Refute it at one input. -/
def fnExactUnitaryModelWrong : ChangeSpec := { name := "fnExactUnitaryModel", fn := fun _ => fun
  | [d] => { results := [.lit (.bool false)], args := [d] }
  | _ => none }
def FnExactUnitaryModelWrongFalsely : Prop := fnExactUnitaryModelRow.holds Try.pinned (OpenSpec.ofChange fnExactUnitaryModelWrong)

/-- 'laws.FnExactIsForm': WHATEVER THE INPUT: true; the input reads as it did. -/
def fnExactIsFormSpec : ChangeSpec := { name := "fnExactIsForm", fn := fun _ => fun
  | [d1, d2] => { results := [.lit (.bool true)], args := [d1, d2] }
  | _ => none }
def fnExactIsFormRow : OpenClaim := { program := "ytodmnjbchegnaaa", sum := "8ffc55213a14721ae69df24484acc08175cd3e0f1d4695becbe08722743b485b", func := "loop.example/g01219/laws.FnExactIsForm", spec := "fnExactIsForm", unfollowed := true, recurses := true, apart := false }
def FnExactIsFormSaid : Prop := fnExactIsFormRow.holds Try.pinned (OpenSpec.ofChange fnExactIsFormSpec)

/-- ITS FALSE NEIGHBOUR: 'it returns false'. Refute it at one input. -/
def fnExactIsFormWrong : ChangeSpec := { name := "fnExactIsForm", fn := fun _ => fun
  | [d1, d2] => { results := [.lit (.bool false)], args := [d1, d2] }
  | _ => none }
def FnExactIsFormWrongFalsely : Prop := fnExactIsFormRow.holds Try.pinned (OpenSpec.ofChange fnExactIsFormWrong)

/-- 'laws.FnExactFreeAlgebra': WHATEVER THE INPUT: true; the input reads as it did. -/
def fnExactFreeAlgebraSpec : ChangeSpec := { name := "fnExactFreeAlgebra", fn := fun _ => fun
  | [d] => { results := [.lit (.bool true)], args := [d] }
  | _ => none }
def fnExactFreeAlgebraRow : OpenClaim := { program := "ytodmnjbchegnaaa", sum := "8ffc55213a14721ae69df24484acc08175cd3e0f1d4695becbe08722743b485b", func := "loop.example/g01219/laws.FnExactFreeAlgebra", spec := "fnExactFreeAlgebra", unfollowed := true, recurses := true, apart := false }
def FnExactFreeAlgebraSaid : Prop := fnExactFreeAlgebraRow.holds Try.pinned (OpenSpec.ofChange fnExactFreeAlgebraSpec)

/-- ITS FALSE NEIGHBOUR: 'it returns false'. Refute it at one input. -/
def fnExactFreeAlgebraWrong : ChangeSpec := { name := "fnExactFreeAlgebra", fn := fun _ => fun
  | [d] => { results := [.lit (.bool false)], args := [d] }
  | _ => none }
def FnExactFreeAlgebraWrongFalsely : Prop := fnExactFreeAlgebraRow.holds Try.pinned (OpenSpec.ofChange fnExactFreeAlgebraWrong)

/-- 'laws.FnExactTorusModel': WHATEVER THE INPUT: true; the input reads as it did. -/
def fnExactTorusModelSpec : ChangeSpec := { name := "fnExactTorusModel", fn := fun _ => fun
  | [d] => { results := [.lit (.bool true)], args := [d] }
  | _ => none }
def fnExactTorusModelRow : OpenClaim := { program := "ytodmnjbchegnaaa", sum := "8ffc55213a14721ae69df24484acc08175cd3e0f1d4695becbe08722743b485b", func := "loop.example/g01219/laws.FnExactTorusModel", spec := "fnExactTorusModel", apart := false }
def FnExactTorusModelSaid : Prop := fnExactTorusModelRow.holds Try.pinned (OpenSpec.ofChange fnExactTorusModelSpec)

/-- ITS FALSE NEIGHBOUR: 'it returns false'. Refute it at one input. -/
def fnExactTorusModelWrong : ChangeSpec := { name := "fnExactTorusModel", fn := fun _ => fun
  | [d] => { results := [.lit (.bool false)], args := [d] }
  | _ => none }
def FnExactTorusModelWrongFalsely : Prop := fnExactTorusModelRow.holds Try.pinned (OpenSpec.ofChange fnExactTorusModelWrong)

/-- 'laws.FnExactDegreeOfForm': WHATEVER THE INPUT: true; the input reads as it did. -/
def fnExactDegreeOfFormSpec : ChangeSpec := { name := "fnExactDegreeOfForm", fn := fun _ => fun
  | [d1, d2] => { results := [.lit (.bool true)], args := [d1, d2] }
  | _ => none }
def fnExactDegreeOfFormRow : OpenClaim := { program := "ytodmnjbchegnaaa", sum := "8ffc55213a14721ae69df24484acc08175cd3e0f1d4695becbe08722743b485b", func := "loop.example/g01219/laws.FnExactDegreeOfForm", spec := "fnExactDegreeOfForm", unfollowed := true, recurses := true, apart := false }
def FnExactDegreeOfFormSaid : Prop := fnExactDegreeOfFormRow.holds Try.pinned (OpenSpec.ofChange fnExactDegreeOfFormSpec)

/-- ITS FALSE NEIGHBOUR: 'it returns false'. Refute it at one input. -/
def fnExactDegreeOfFormWrong : ChangeSpec := { name := "fnExactDegreeOfForm", fn := fun _ => fun
  | [d1, d2] => { results := [.lit (.bool false)], args := [d1, d2] }
  | _ => none }
def FnExactDegreeOfFormWrongFalsely : Prop := fnExactDegreeOfFormRow.holds Try.pinned (OpenSpec.ofChange fnExactDegreeOfFormWrong)

/-- 'laws.FnExactPartOfForm': WHATEVER THE INPUT: true; the input reads as it did. -/
def fnExactPartOfFormSpec : ChangeSpec := { name := "fnExactPartOfForm", fn := fun _ => fun
  | [d1, d2, d3] => { results := [.lit (.bool true)], args := [d1, d2, d3] }
  | _ => none }
def fnExactPartOfFormRow : OpenClaim := { program := "ytodmnjbchegnaaa", sum := "8ffc55213a14721ae69df24484acc08175cd3e0f1d4695becbe08722743b485b", func := "loop.example/g01219/laws.FnExactPartOfForm", spec := "fnExactPartOfForm", unfollowed := true, recurses := true, apart := false }
def FnExactPartOfFormSaid : Prop := fnExactPartOfFormRow.holds Try.pinned (OpenSpec.ofChange fnExactPartOfFormSpec)

/-- ITS FALSE NEIGHBOUR: 'it returns false'. Refute it at one input. -/
def fnExactPartOfFormWrong : ChangeSpec := { name := "fnExactPartOfForm", fn := fun _ => fun
  | [d1, d2, d3] => { results := [.lit (.bool false)], args := [d1, d2, d3] }
  | _ => none }
def FnExactPartOfFormWrongFalsely : Prop := fnExactPartOfFormRow.holds Try.pinned (OpenSpec.ofChange fnExactPartOfFormWrong)

/- THE SECOND FORM. 'bulk': how many values and letters a reading holds, each counted each time it is reached (what is shared counts as often as it is met; a slice's spare places count too). A statement '..UptoSaid' is the law's where the arguments, and the package variables that the reading takes, are together of bulk at most 1048576: NARROWER than '..Said'. Prove '..Said' where nothing that the law and all that it calls make is longer than what came in: it says more and counts as full. Else prove '..UptoSaid'. A law counts once. -/
mutual
def uptoBulk {H : Type} : DataW H → Nat
  | .lit (.string bytes) => bytes.length + 1
  | .lit _ => 1
  | .nil => 1
  | .ptr d => uptoBulk d + 1
  | .slice elems spare => uptoBulkAll elems + uptoBulkAll spare + 1
  | .agg parts => uptoBulkAll parts + 1
  | .iface _ d => uptoBulk d + 1
  | .map entries => uptoBulkEntries entries + 1
  | .held _ => 1
def uptoBulkAll {H : Type} : List (DataW H) → Nat
  | [] => 0
  | d :: r => uptoBulk d + uptoBulkAll r
def uptoBulkEntries {H : Type} : List (Lit × DataW H) → Nat
  | [] => 0
  | x :: r => uptoBulkEntry x + uptoBulkEntries r
def uptoBulkEntry {H : Type} : Lit × DataW H → Nat
  | (.string bytes, d) => bytes.length + uptoBulk d + 1
  | (_, d) => uptoBulk d + 1
 end
def uptoSmall : (H : Type) → List (DataW H) → Bool := fun _ ds => decide (uptoBulkAll ds ≤ 1048576)
def OpenSpec.upto (s : _root_.Go.ChangeSpec) : _root_.Go.OpenSpec := { _root_.Go.OpenSpec.ofChange s with cond := some uptoSmall }

/-- 'laws.FnExactConstants', WHERE WHAT IT READS IS OF BULK AT MOST 1048576: true; the input reads as it did. -/
def fnExactConstantsUptoRow : OpenClaim := { program := "ytodmnjbchegnaaa", sum := "8ffc55213a14721ae69df24484acc08175cd3e0f1d4695becbe08722743b485b", func := "loop.example/g01219/laws.FnExactConstants", spec := "fnExactConstants", apart := false, narrowed := true }
def FnExactConstantsUptoSaid : Prop := fnExactConstantsUptoRow.holds Try.pinned (OpenSpec.upto fnExactConstantsSpec)

/-- 'laws.FnExactInverseNumber', WHERE WHAT IT READS IS OF BULK AT MOST 1048576: true; the input reads as it did. -/
def fnExactInverseNumberUptoRow : OpenClaim := { program := "ytodmnjbchegnaaa", sum := "8ffc55213a14721ae69df24484acc08175cd3e0f1d4695becbe08722743b485b", func := "loop.example/g01219/laws.FnExactInverseNumber", spec := "fnExactInverseNumber", apart := false, narrowed := true }
def FnExactInverseNumberUptoSaid : Prop := fnExactInverseNumberUptoRow.holds Try.pinned (OpenSpec.upto fnExactInverseNumberSpec)

/-- 'laws.FnExactAreDegrees', WHERE WHAT IT READS IS OF BULK AT MOST 1048576: true; the input reads as it did. -/
def fnExactAreDegreesUptoRow : OpenClaim := { program := "ytodmnjbchegnaaa", sum := "8ffc55213a14721ae69df24484acc08175cd3e0f1d4695becbe08722743b485b", func := "loop.example/g01219/laws.FnExactAreDegrees", spec := "fnExactAreDegrees", unfollowed := true, recurses := true, apart := false, narrowed := true }
def FnExactAreDegreesUptoSaid : Prop := fnExactAreDegreesUptoRow.holds Try.pinned (OpenSpec.upto fnExactAreDegreesSpec)

/-- 'laws.FnExactIsMonomial', WHERE WHAT IT READS IS OF BULK AT MOST 1048576: true; the input reads as it did. -/
def fnExactIsMonomialUptoRow : OpenClaim := { program := "ytodmnjbchegnaaa", sum := "8ffc55213a14721ae69df24484acc08175cd3e0f1d4695becbe08722743b485b", func := "loop.example/g01219/laws.FnExactIsMonomial", spec := "fnExactIsMonomial", unfollowed := true, recurses := true, apart := false, narrowed := true }
def FnExactIsMonomialUptoSaid : Prop := fnExactIsMonomialUptoRow.holds Try.pinned (OpenSpec.upto fnExactIsMonomialSpec)

/-- 'laws.FnExactDegreeOfMonomial', WHERE WHAT IT READS IS OF BULK AT MOST 1048576: true; the input reads as it did. -/
def fnExactDegreeOfMonomialUptoRow : OpenClaim := { program := "ytodmnjbchegnaaa", sum := "8ffc55213a14721ae69df24484acc08175cd3e0f1d4695becbe08722743b485b", func := "loop.example/g01219/laws.FnExactDegreeOfMonomial", spec := "fnExactDegreeOfMonomial", unfollowed := true, recurses := true, apart := false, narrowed := true }
def FnExactDegreeOfMonomialUptoSaid : Prop := fnExactDegreeOfMonomialUptoRow.holds Try.pinned (OpenSpec.upto fnExactDegreeOfMonomialSpec)

/-- 'laws.FnExactFreeSeries', WHERE WHAT IT READS IS OF BULK AT MOST 1048576: true; the input reads as it did. -/
def fnExactFreeSeriesUptoRow : OpenClaim := { program := "ytodmnjbchegnaaa", sum := "8ffc55213a14721ae69df24484acc08175cd3e0f1d4695becbe08722743b485b", func := "loop.example/g01219/laws.FnExactFreeSeries", spec := "fnExactFreeSeries", unfollowed := true, recurses := true, apart := false, narrowed := true }
def FnExactFreeSeriesUptoSaid : Prop := fnExactFreeSeriesUptoRow.holds Try.pinned (OpenSpec.upto fnExactFreeSeriesSpec)

/-- 'laws.FnExactUnitaryModel', WHERE WHAT IT READS IS OF BULK AT MOST 1048576: true; the input reads as it did. -/
def fnExactUnitaryModelUptoRow : OpenClaim := { program := "ytodmnjbchegnaaa", sum := "8ffc55213a14721ae69df24484acc08175cd3e0f1d4695becbe08722743b485b", func := "loop.example/g01219/laws.FnExactUnitaryModel", spec := "fnExactUnitaryModel", apart := false, narrowed := true }
def FnExactUnitaryModelUptoSaid : Prop := fnExactUnitaryModelUptoRow.holds Try.pinned (OpenSpec.upto fnExactUnitaryModelSpec)

/-- 'laws.FnExactIsForm', WHERE WHAT IT READS IS OF BULK AT MOST 1048576: true; the input reads as it did. -/
def fnExactIsFormUptoRow : OpenClaim := { program := "ytodmnjbchegnaaa", sum := "8ffc55213a14721ae69df24484acc08175cd3e0f1d4695becbe08722743b485b", func := "loop.example/g01219/laws.FnExactIsForm", spec := "fnExactIsForm", unfollowed := true, recurses := true, apart := false, narrowed := true }
def FnExactIsFormUptoSaid : Prop := fnExactIsFormUptoRow.holds Try.pinned (OpenSpec.upto fnExactIsFormSpec)

/-- 'laws.FnExactFreeAlgebra', WHERE WHAT IT READS IS OF BULK AT MOST 1048576: true; the input reads as it did. -/
def fnExactFreeAlgebraUptoRow : OpenClaim := { program := "ytodmnjbchegnaaa", sum := "8ffc55213a14721ae69df24484acc08175cd3e0f1d4695becbe08722743b485b", func := "loop.example/g01219/laws.FnExactFreeAlgebra", spec := "fnExactFreeAlgebra", unfollowed := true, recurses := true, apart := false, narrowed := true }
def FnExactFreeAlgebraUptoSaid : Prop := fnExactFreeAlgebraUptoRow.holds Try.pinned (OpenSpec.upto fnExactFreeAlgebraSpec)

/-- 'laws.FnExactTorusModel', WHERE WHAT IT READS IS OF BULK AT MOST 1048576: true; the input reads as it did. -/
def fnExactTorusModelUptoRow : OpenClaim := { program := "ytodmnjbchegnaaa", sum := "8ffc55213a14721ae69df24484acc08175cd3e0f1d4695becbe08722743b485b", func := "loop.example/g01219/laws.FnExactTorusModel", spec := "fnExactTorusModel", apart := false, narrowed := true }
def FnExactTorusModelUptoSaid : Prop := fnExactTorusModelUptoRow.holds Try.pinned (OpenSpec.upto fnExactTorusModelSpec)

/-- 'laws.FnExactDegreeOfForm', WHERE WHAT IT READS IS OF BULK AT MOST 1048576: true; the input reads as it did. -/
def fnExactDegreeOfFormUptoRow : OpenClaim := { program := "ytodmnjbchegnaaa", sum := "8ffc55213a14721ae69df24484acc08175cd3e0f1d4695becbe08722743b485b", func := "loop.example/g01219/laws.FnExactDegreeOfForm", spec := "fnExactDegreeOfForm", unfollowed := true, recurses := true, apart := false, narrowed := true }
def FnExactDegreeOfFormUptoSaid : Prop := fnExactDegreeOfFormUptoRow.holds Try.pinned (OpenSpec.upto fnExactDegreeOfFormSpec)

/-- 'laws.FnExactPartOfForm', WHERE WHAT IT READS IS OF BULK AT MOST 1048576: true; the input reads as it did. -/
def fnExactPartOfFormUptoRow : OpenClaim := { program := "ytodmnjbchegnaaa", sum := "8ffc55213a14721ae69df24484acc08175cd3e0f1d4695becbe08722743b485b", func := "loop.example/g01219/laws.FnExactPartOfForm", spec := "fnExactPartOfForm", unfollowed := true, recurses := true, apart := false, narrowed := true }
def FnExactPartOfFormUptoSaid : Prop := fnExactPartOfFormUptoRow.holds Try.pinned (OpenSpec.upto fnExactPartOfFormSpec)

end Rows
end Go.Proofs.Ytodmnjbchegnaaa
