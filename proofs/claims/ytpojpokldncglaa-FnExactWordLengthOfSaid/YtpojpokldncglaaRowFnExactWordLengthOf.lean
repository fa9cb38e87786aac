/- The row: the law answers true whatever the input, and the input reads as it did. The law's walk stands in the texts it imports. No condition. -/
import Derived.Test.YtpojpokldncglaaRows
import Derived.Test.YtpojpokldncglaaFacts
import Derived.Test.YtpojpokldncglaaGRow
import Derived.Test.YtpojpokldncglaaLj
import Derived.WalkKit
import Derived.ProofKit
import Derived.OpenShut
import Derived.ChangeOld
import Derived.Below
import Derived.SizedLaws
namespace Go.Proofs.Ytpojpokldncglaa.fnExactWordLengthOf
open Go.ChangeShapes Go.WideShapes Go.ChangeAt Go.RowKit
open Go.Proofs.Ytpojpokldncglaa.G
set_option linter.unusedVariables false
theorem u49 : Try.prog.underlying 49 = some (TypeDesc.struct #[{ name := "Degrees", type := 22, offset := 0, embedded := false, tag := "", pkgPath := "", byteOffset := 0 }, { name := "Images", type := 47, offset := 1, embedded := false, tag := "", pkgPath := "", byteOffset := 24 }]) := by kernel_rfl
theorem u22 : Try.prog.underlying 22 = some (TypeDesc.slice 2) := by kernel_rfl
theorem u2 : Try.prog.underlying 2 = some (TypeDesc.int .i64) := by kernel_rfl
theorem u47 : Try.prog.underlying 47 = some (TypeDesc.slice 25) := by kernel_rfl
theorem u25 : Try.prog.underlying 25 = some (TypeDesc.struct #[{ name := "Terms", type := 23, offset := 0, embedded := false, tag := "", pkgPath := "", byteOffset := 0 }]) := by kernel_rfl
theorem u23 : Try.prog.underlying 23 = some (TypeDesc.slice 139) := by kernel_rfl
theorem u139 : Try.prog.underlying 139 = some (TypeDesc.struct #[{ name := "Monomial", type := 85, offset := 0, embedded := false, tag := "", pkgPath := "", byteOffset := 0 }, { name := "Factor", type := 2, offset := 8, embedded := false, tag := "", pkgPath := "", byteOffset := 8 }]) := by kernel_rfl
theorem u85 : Try.prog.underlying 85 = some (TypeDesc.array 8 5) := by kernel_rfl
theorem u5 : Try.prog.underlying 5 = some (TypeDesc.int .u8) := by kernel_rfl
theorem u4 : Try.prog.underlying 4 = some (TypeDesc.bool) := by kernel_rfl
theorem own : ownKnob Try.prog.godebug = none := by kernel_rfl
set_option maxRecDepth 100000 in
theorem lifted (os : Os) (started : os.Started) (H : Type) (enc : TypeId × Value → H) :
    ReturnsInHanded {} Try.checked os 7 .any (Rows.fnExactWordLengthOfSpec.pre6 enc Try.prog Try.f7 Rows.fnExactWordLengthOfRow.domain false) (Rows.fnExactWordLengthOfSpec.post enc Try.prog Try.f7 false true false false) := by
  refine returnsInHanded_of_change_sized (C := Try.checked) own started (by kernel_rfl) Try.func7
    (ChangeSpec.witness6 (enc := enc) (C := Try.checked) false ⟨#[], #[.agg #[.slice none 0 0, .slice none 0 0], .agg #[.slice none 0 0]], []⟩ 12 (by kernel_rfl) (by kernel_rfl) (by kernel_rfl) (by kernel_rfl)) ?_
  intro W base args ds gs before hval0 hW hcnd hsz0 _
  have hval : ∀ (j : Nat) t v, Try.f7.params[j]? = some t → args[j]? = some v → Value.okWide Try.prog W .any base t v := hval0
  have hW' := hW
  obtain ⟨p, q, hA0, hV, rfl, hfz, hnd⟩ := hW
  have hA : DataW.TrodAll enc Try.prog W 0 (fun _ => true) true Try.f7.params.toList args.toList ds p := hA0
  rw [Try.params7] at hA hval
  obtain ⟨v0, vs0, d0, ds0, p0, q0, hargs, rfl, rfl, h0, r0⟩ := trodAll_cons hA
  obtain ⟨v1, vs1, d1, ds1, p1, q1, rfl, rfl, rfl, h1, r1⟩ := trodAll_cons r0
  obtain ⟨rfl, rfl, rfl⟩ := trodAll_nil r1
  obtain rfl : args = #[v0, v1] := by cases args; simp_all
  obtain ⟨rfl, rfl⟩ := trodVars_none hV
  obtain ⟨q0d, c0d, ds0, q0f, c0f, fs0, rfl, X0, F0, le0, fl0⟩ := openV_alg u49 rfl rfl rfl rfl (by kernel_rfl) (by kernel_rfl) (by kernel_rfl) u22 u2 (by kernel_rfl) u47 (by kernel_rfl) (fun n l y hy => tr_form u25 rfl rfl (by kernel_rfl) (by kernel_rfl) u23 (by kernel_rfl) u139 rfl rfl rfl rfl u85 u5 (by kernel_rfl) (by kernel_rfl) u2 (by kernel_rfl) hy) (hval 0 49 v0 rfl rfl) h0
  obtain ⟨q1, c1, ts1, rfl, X1, le1⟩ := openV_form u25 rfl rfl (by kernel_rfl) (by kernel_rfl) u23 (by kernel_rfl) u139 rfl rfl rfl rfl u85 u5 (by kernel_rfl) (by kernel_rfl) u2 (by kernel_rfl) (hval 1 25 v1 rfl rfl) h1
  clear hA0 hval0 hsz0
  refine ((lawWordLengthOf_c X0 F0 X1 le0 fl0 le1 (Hp.start (H := hp W) fun _ _ h => h)).mono fun e W' ⟨he, bel⟩ => ?_)
  subst he
  exact ⟨_, rfl, law_post (f := Try.f7) (by kernel_rfl) (by kernel_rfl) rfl rfl u4 rfl hW' bel⟩
theorem joined : joinedFacts Try.prog 7 Try.f7 Rows.fnExactWordLengthOfSpec Rows.fnExactWordLengthOfRow = true := by
  unfold joinedFacts
  simp only [Bool.and_eq_true]
  repeat' apply And.intro
  all_goals first
    | with_reducible exact Facts.fEnter
    | with_reducible exact Facts.fLaid
    | with_reducible exact Facts.fMaps
    | with_reducible exact Facts.fHeard
    | (rw [Facts.fMake]; rfl)
    | (rw [Facts.fLift]; rfl)
    | (rw [Facts.fKeys]; rfl)
    | (rw [Facts.fStops]; rfl)
    | (rw [Facts.fStopK]; rfl)
    | as_aux_lemma => kernel_rfl
theorem over : Rows.fnExactWordLengthOfRow.holds Try.pinned (OpenSpec.ofChange Rows.fnExactWordLengthOfSpec) :=
  OpenClaim.holds_of_wide 7 Try.f7 rfl rfl rfl rfl rfl rfl rfl ⟨rfl, rfl, rfl, rfl, rfl⟩ rfl rfl rfl rfl rfl (by as_aux_lemma => kernel_rfl) Try.func7 joined
    (of_decide_eq_true (by as_aux_lemma => kernel_rfl)) (by unfold Func.isWrapper; first | (rw [if_pos (by decide +kernel)]; kernel_rfl) | (rw [if_neg (by decide +kernel)]; exact ⟨rfl, rfl⟩))
    (fun os started H enc _ => lifted os started H enc)
theorem proved : Rows.FnExactWordLengthOfSaid := over
#print axioms proved
end Go.Proofs.Ytpojpokldncglaa.fnExactWordLengthOf
namespace Go.Proofs.Ytpojpokldncglaa
/-- The row, under a short name, for the claim. -/
theorem fnExactWordLengthOf_holds : Rows.FnExactWordLengthOfSaid := fnExactWordLengthOf.proved
end Go.Proofs.Ytpojpokldncglaa
