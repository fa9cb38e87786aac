/- The row: the law answers true whatever the input, and the input reads as it did. The law's walk stands in the texts it imports. No condition. -/
import Derived.Test.YtbjhllmcnfncdaaDoorRows
import Derived.Test.YtbjhllmcnfncdaaDoorFacts
import Derived.Test.YtbjhllmcnfncdaaDoorGRow
import Derived.Test.YtbjhllmcnfncdaaDoorLv
import Derived.Test.YtbjhllmcnfncdaaDoorCards
import Derived.Test.YtbjhllmcnfncdaaDoorTie
import Derived.LaidMore
import Derived.Stop.Joined
import Derived.Stop.LaidErr
import Derived.SevenTiedAt
import Derived.MakeChecks
import Derived.WalkKit
import Derived.ProofKit
import Derived.OpenShut
import Derived.ChangeOld
import Derived.Below
import Derived.SizedLaws
namespace Go.Proofs.YtbjhllmcnfncdaaDoor.fnExactFormText
open Go.ChangeShapes Go.WideShapes Go.ChangeAt Go.RowKit
open Go.Proofs.YtbjhllmcnfncdaaDoor.G
set_option linter.unusedVariables false
theorem u22 : Tryd.prog.underlying 22 = some (TypeDesc.slice 2) := by kernel_rfl
theorem u2 : Tryd.prog.underlying 2 = some (TypeDesc.int .i64) := by kernel_rfl
theorem u25 : Tryd.prog.underlying 25 = some (TypeDesc.struct #[{ name := "Terms", type := 23, offset := 0, embedded := false, tag := "", pkgPath := "", byteOffset := 0 }]) := by kernel_rfl
theorem u23 : Tryd.prog.underlying 23 = some (TypeDesc.slice 70) := by kernel_rfl
theorem u70 : Tryd.prog.underlying 70 = some (TypeDesc.struct #[{ name := "Monomial", type := 63, offset := 0, embedded := false, tag := "", pkgPath := "", byteOffset := 0 }, { name := "Factor", type := 2, offset := 8, embedded := false, tag := "", pkgPath := "", byteOffset := 8 }]) := by kernel_rfl
theorem u63 : Tryd.prog.underlying 63 = some (TypeDesc.array 8 5) := by kernel_rfl
theorem u5 : Tryd.prog.underlying 5 = some (TypeDesc.int .u8) := by kernel_rfl
theorem u137 : Tryd.prog.underlying 137 = some (TypeDesc.array 20 121) := by kernel_rfl
theorem u121 : Tryd.prog.underlying 121 = some (TypeDesc.int .u64) := by kernel_rfl
theorem u4 : Tryd.prog.underlying 4 = some (TypeDesc.bool) := by kernel_rfl
theorem own : ownKnob Tryd.prog.godebug = none := by kernel_rfl
set_option maxRecDepth 100000 in
theorem door_met (os : Os) (args : Array Value) : laidMetH Tryd.prog Rows.fnExactFormTextRow.laid ((World.doorLaid Tryd.prog 400 os).forCall (fun _ _ => 0) ⟨#[], args, []⟩).memory :=
  laidMetH_of_parts3 (fuel := 8) (laidMet_of_run' 8 (by kernel_rfl) (by kernel_rfl)) (by kernel_rfl) (by kernel_rfl)
theorem tab_ok {W : World} (hL : laidMetH Tryd.prog Rows.fnExactFormTextRow.laid W) : TabOk Tryd.prog nmT (hp W) := by
  rw [MakeChecks.laidMetH_plain _ _ _ (by kernel_rfl)] at hL
  have h1 : laidMet Tryd.prog [(nmT, Lib.tabData .u64 Lib.pow10Tab)] W := hL.tail.tail
  obtain ⟨g, hg⟩ : ∃ g, Tryd.prog.globalNamed nmT = some g := ⟨0, by kernel_rfl⟩
  have h2 : Lib.TabIs Tryd.prog W nmT .u64 Lib.pow10Tab := Lib.tabIs_of_head (P := Tryd.prog) (t := 137) (e := 121) (n := 20) hg (by rw [← Option.some.inj ((show Tryd.prog.globalNamed nmT = some 0 by kernel_rfl).symm.trans hg)]; kernel_rfl) u137 u121 (by kernel_rfl) (by kernel_rfl) h1
  intro w hw
  unfold Lib.TabIs World.var? at h2 ⊢
  rw [hg] at h2 ⊢
  simp only [Option.bind_some] at h2 ⊢
  cases hb : W.heap[g]? with
  | none => rw [hb] at h2; simp at h2
  | some o =>
    have h3 : w.heap[g]? = some o := hw g o hb
    rw [hb] at h2
    rw [h3]
    exact h2
set_option maxRecDepth 100000 in
theorem lifted (os : Os) (started : os.Started) (H : Type) (enc : TypeId × Value → H) :
    ReturnsInHanded {} Tryd.checked os 3 .any (fun w args => (Rows.fnExactFormTextSpec.pre enc Tryd.prog Tryd.f3 Rows.fnExactFormTextRow.domain false w args ∧ laidMetH Tryd.prog Rows.fnExactFormTextRow.laid w) ∧ sizedMet enc Tryd.prog Tryd.f3 (OpenSpec.ofChange Rows.fnExactFormTextSpec) false w args)
      (Rows.fnExactFormTextSpec.post enc Tryd.prog Tryd.f3 false true false false) := by
  refine returnsInHanded_of_change_and (C := Tryd.checked) (X := fun w _ => laidMetH Tryd.prog Rows.fnExactFormTextRow.laid w) (fun _ _ _ hh h => h.of_heap hh) own started (by kernel_rfl) Tryd.func3
    (ChangeSpec.witness_shaped (enc := enc) (C := Tryd.checked) (os := os) (X := fun w _ => laidMetH Tryd.prog Rows.fnExactFormTextRow.laid w) false (World.doorLaid Tryd.prog 400 os) #[.slice none 0 0, .agg #[.slice none 0 0]] 12 rfl (World.shaped_of_RefB (by kernel_rfl) (by kernel_rfl)) (by kernel_rfl) (by kernel_rfl) (by kernel_rfl) (door_met os _)) ?_
  intro W base args ds gs before hval0 hW hcnd hsz0 hL _
  have hT9 := tab_ok hL
  have hval : ∀ (j : Nat) t v, Tryd.f3.params[j]? = some t → args[j]? = some v → Value.okWide Tryd.prog W .any base t v := hval0
  have hW' := hW
  obtain ⟨p, q, hA0, hV, rfl, hfz, hnd⟩ := hW
  have hA : DataW.TrodAll enc Tryd.prog W 0 (fun _ => true) true Tryd.f3.params.toList args.toList ds p := hA0
  rw [Tryd.params3] at hA hval
  obtain ⟨v0, vs0, d0, ds0, p0, q0, hargs, rfl, rfl, h0, r0⟩ := trodAll_cons hA
  obtain ⟨v1, vs1, d1, ds1, p1, q1, rfl, rfl, rfl, h1, r1⟩ := trodAll_cons r0
  obtain ⟨rfl, rfl, rfl⟩ := trodAll_nil r1
  obtain rfl : args = #[v0, v1] := by cases args; simp_all
  obtain ⟨rfl, rfl⟩ := trodVars_none hV
  obtain ⟨q0, xs0, c0, rfl, X0, le0, bd0⟩ := openV_ints u22 u2 (by kernel_rfl) (hval 0 22 v0 rfl rfl) h0
  obtain ⟨q1, c1, ts1, rfl, X1, le1⟩ := openV_form u25 rfl rfl (by kernel_rfl) (by kernel_rfl) u23 (by kernel_rfl) u70 rfl rfl rfl rfl u63 u5 (by kernel_rfl) (by kernel_rfl) u2 (by kernel_rfl) (hval 1 25 v1 rfl rfl) h1
  clear hA0 hval0 hsz0
  refine ((lawFormText_c X0 X1 le1 hT9 (Hp.start (H := hp W) fun _ _ h => h)).mono fun e W' ⟨he, bel⟩ => ?_)
  subst he
  exact ⟨_, rfl, law_post (f := Tryd.f3) (by kernel_rfl) (by kernel_rfl) rfl rfl u4 rfl hW' bel⟩
theorem joined : joinedFacts Tryd.prog 3 Tryd.f3 Rows.fnExactFormTextSpec Rows.fnExactFormTextRow = true := by
  unfold joinedFacts
  simp only [Bool.and_eq_true]
  repeat' apply And.intro
  all_goals first
    | with_reducible exact Facts.fEnter
    | with_reducible exact Facts.fLaid
    | with_reducible exact Facts.fMaps
    | with_reducible exact Facts.fHeard
    | (rw [Facts.fMake]; rfl)
    | (rw [Facts.fLift]; rfl)
    | (rw [Facts.fKeys]; rfl)
    | (rw [Facts.fStops]; rfl)
    | (rw [Facts.fStopK]; rfl)
    | as_aux_lemma => kernel_rfl
theorem over : Rows.fnExactFormTextRow.holds Tryd.pinned (OpenSpec.ofChange Rows.fnExactFormTextSpec) :=
  OpenClaim.holds_of_wide 3 Tryd.f3 rfl rfl rfl rfl rfl rfl rfl ⟨rfl, rfl, rfl, rfl, rfl⟩ rfl rfl rfl rfl rfl (by as_aux_lemma => kernel_rfl) Tryd.func3 joined
    (of_decide_eq_true (by as_aux_lemma => kernel_rfl)) (by unfold Func.isWrapper; first | (rw [if_pos (by decide +kernel)]; kernel_rfl) | (rw [if_neg (by decide +kernel)]; exact ⟨rfl, rfl⟩))
    (fun os started H enc _ => lifted os started H enc)
theorem proved : Rows.FnExactFormTextCardSaid :=
  Claim7.holds_tied_plain_at .later [] [.data, .data, .data] true (true, "42dfe4ee58aa75cff37c8fd705bd87ed3c60cf5af0e0ed589015afd8aa5d913d") false
    over (fun _ h => by cases h) (by kernel_rfl) (fun _ h => by cases h) fnExactFormText_row_tie rfl ⟨rfl, rfl⟩ (by kernel_rfl) rfl
    (fun f fn hf hfn => by
      obtain rfl : f = 3 := Option.some.inj ((show Tryd.prog.funcNamed "loop.example/g01219/laws.FnExactFormText" = some 3 by kernel_rfl).symm.trans hf) |>.symm
      obtain rfl : fn = Tryd.f3 := (Option.some.inj (Tryd.func3.symm.trans hfn)).symm
      exact ⟨by kernel_rfl, fun j t ht => by
        rw [Tryd.params3] at ht
        have hm : t ∈ [22, 25] := by simpa using Array.mem_of_getElem? ht
        have hall : ([22, 25].all fun u => !Tryd.prog.wantsStandIn u) = true := by kernel_rfl
        exact (show Tryd.prog.wantsStandIn t = false by simpa using List.all_eq_true.1 hall t hm)⟩)
    (by kernel_rfl)
#print axioms proved
end Go.Proofs.YtbjhllmcnfncdaaDoor.fnExactFormText
namespace Go.Proofs.YtbjhllmcnfncdaaDoor
/-- The row, under a short name, for the claim. -/
theorem fnExactFormText_holds : Rows.FnExactFormTextCardSaid := fnExactFormText.proved
end Go.Proofs.YtbjhllmcnfncdaaDoor
