/- The walks: what each Go function does, shown from its text. No condition. -/
import Derived.Test.YtodmnjbchegnaaaGMake
import Derived.Test.YtodmnjbchegnaaaProg
import Derived.Test.YtodmnjbchegnaaaWa
import Derived.Test.YtodmnjbchegnaaaWb
import Derived.Test.YtodmnjbchegnaaaWc
import Derived.Test.YtodmnjbchegnaaaWd
import Derived.Test.YtodmnjbchegnaaaWe
import Derived.Test.YtodmnjbchegnaaaWf
import Derived.Test.YtodmnjbchegnaaaWg
import Derived.Test.YtodmnjbchegnaaaWh
import Derived.Test.YtodmnjbchegnaaaWi
import Derived.Test.YtodmnjbchegnaaaWj
set_option linter.unusedVariables false
set_option linter.unusedSimpArgs false
namespace Go.Proofs.Ytodmnjbchegnaaa.G
open Go Go.RowKit
namespace Wk
theorem u26 : Try.prog.underlying 26 = some (TypeDesc.slice 2) := by kernel_rfl
theorem u40 : Try.prog.underlying 40 = some (TypeDesc.slice 54) := by kernel_rfl
theorem u42 : Try.prog.underlying 42 = some (TypeDesc.struct #[{ name := "Degrees", type := 26, offset := 0, embedded := false, tag := "", pkgPath := "", byteOffset := 0 }, { name := "Images", type := 40, offset := 1, embedded := false, tag := "", pkgPath := "", byteOffset := 24 }]) := by kernel_rfl
theorem sz2 : Size Try.prog 2 1 := by unfold Size; kernel_rfl
theorem sz42 : Size Try.prog 42 2 := by unfold Size; kernel_rfl
theorem sz54 : Size Try.prog 54 1 := by unfold Size; kernel_rfl
theorem by2 : Bytes Try.prog 2 8 := by unfold Bytes; kernel_rfl
theorem by54 : Bytes Try.prog 54 24 := by unfold Bytes; kernel_rfl
theorem ze2 : Zero Try.prog 2 [.int .i64 0] := by unfold Zero; kernel_rfl
theorem ze42 : Zero Try.prog 42 [.slice none 0 0, .slice none 0 0] := by unfold Zero; kernel_rfl
theorem bz42 : ∀ w, (Instr.build 42 #[]).run Try.prog w = .ok (.agg [.slice none 0 0, .slice none 0 0].toArray) w := fun _ => by kernel_rfl
theorem ze54 : Zero Try.prog 54 [.slice none 0 0] := by unfold Zero; kernel_rfl
theorem ag42 : Agg Try.prog 42 2 := ⟨_, u42, rfl, by kernel_rfl⟩
theorem fn19 : Fn Try.prog 19 := ⟨_, Try.func19, by kernel_rfl, rfl⟩
theorem fn54 : Fn Try.prog 54 := ⟨_, Try.func54, by kernel_rfl, rfl⟩
theorem fn68 : Fn Try.prog 68 := ⟨_, Try.func68, by kernel_rfl, rfl⟩
theorem fn77 : Fn Try.prog 77 := ⟨_, Try.func77, by kernel_rfl, rfl⟩
theorem fn87 : Fn Try.prog 87 := ⟨_, Try.func87, by kernel_rfl, rfl⟩
theorem bd42_0_1 : ∀ (q0 : Option Addr) (m0 c0 : Nat) (q1 : Option Addr) (m1 c1 : Nat) w, (Instr.build 42 #[(0, .slice q0 m0 c0), (1, .slice q1 m1 c1)]).run Try.prog w = .ok (.agg [.slice q0 m0 c0, .slice q1 m1 c1].toArray) w := fun q0 m0 c0 q1 m1 c1 _ => by kernel_rfl
theorem foll0 : Try.prog.follows .mixedOrders = true := by kernel_rfl
end Wk
open Wk
set_option maxRecDepth 10000 in
theorem l01Own_c {B : World} {H0 H : HP} {L : List SA} {w : World} {qxs : Option Addr} {cxs : Nat} {xs : List Int} (hxs : Ints H qxs xs) (hn : xs.length ≤ 1048576) (hH : Hp B H0 H L w) :
    Calls Try.prog 87 [.slice qxs xs.length cxs].toArray w fun e w' => ∃ q c, e = .returned (.slice q xs.length c) ∧ Hp B H0 H (own 2 1 q xs.length c (intsC xs) :: L) w' := by
  refine CJ.enter Try.func87 rfl 6 rfl rfl [(0, .slice qxs xs.length cxs)] rfl hH ?_
  clear hH
  refine CJ.seq fun _ hK1 _ => ?_
  refine CJ.region ?_
  refine J.p (PR.assign rfl) rfl ?_
  refine J.nil ?_
  refine EJ.thenN (hK1 ?_)
  refine CJ.seq fun _ hK2 _ => ?_
  refine CJ.region ?_
  refine J.mk (MK.lit0I u26 sz2) rfl fun qo3 co3 => ?_
  refine J.p (PR.move rfl) rfl ?_
  refine J.appendHI u26 ze2 sz2 by2 rfl rfl hxs (by simp; omega) At.z (fun _ _ => At.z) rfl fun qo5 co5 => ?_
  refine J.p (PR.assign rfl) rfl ?_
  refine J.nil ?_
  refine EJ.thenN (hK2 ?_)
  refine CJ.ret ?_
  refine EJ.ret1 rfl (Res.tmp rfl) fun w hH => ?_
  exact ⟨_, _, rfl, hH⟩
set_option maxRecDepth 10000 in
theorem l02Free_c {B : World} {H0 H : HP} {L : List SA} {w : World} {qds : Option Addr} {cds : Nat} {ds : List Int} (hds : Ints H qds ds) (hn : ds.length ≤ 1048576) (hH : Hp B H0 H L w) :
    Calls Try.prog 68 [.slice qds ds.length cds].toArray w fun e w' => ∃ qd cd qf cf vs, e = .returned (.agg [.slice qd ds.length cd, .slice qf (List.replicate ds.length ([] : List Term)).length cf].toArray) ∧ Hp B H0 H (own 2 1 qd ds.length cd (intsC ds) :: ownFs 54 86 qf cf vs (List.replicate ds.length ([] : List Term)) :: L) w' := by
  refine CJ.enter Try.func68 rfl 9 rfl rfl [(0, .slice qds ds.length cds)] rfl hH ?_
  clear hH
  refine CJ.seq fun _ hK1 _ => ?_
  refine CJ.region ?_
  refine J.alloc ze42 rfl fun g2 => ?_
  refine J.nil ?_
  refine EJ.thenN (hK1 ?_)
  refine CJ.seq fun _ hK2 _ => ?_
  refine CJ.head [[], [0], [], [2], [3]] (by kernel_rfl) ?_
  refine HJ.op (fun gh => PR.move rfl) ?_
  refine HJ.callN fn87 (fun gh => rfl) (fun w X hH => l01Own_c hds (by omega) hH) ?_
  refine HJ.op (fun gh => PR.move rfl) ?_
  refine HJ.op (fun gh => PR.lenSlice u26 rfl rfl) ?_
  refine HJ.mk (fun gh => MK.makeF 86 u40 ze54 sz54 by54 rfl rfl rfl rfl (by omega)) ?_
  refine HJ.close 5 2 foll0 (by kernel_rfl) rfl rfl fun gh => ?_
  refine J.conv (us' := (3, _) :: (4, _) :: (5, _) :: (6, _) :: (7, _) :: _) (L' := _ :: _ :: _) rfl rfl ?_
  refine J.p (PR.build2 rfl rfl (fun w => bd42_0_1 _ _ _ _ _ _ w)) rfl ?_
  refine J.storeAll rfl rfl (by first | exact bytesC_one _ | exact intsC_one _ | exact Term.c_one _ | simp [Value.oneCell']) (by simpa [*] using sz42) (by simp [*]) (.s (.s .z)) ?_
  refine J.nil ?_
  refine EJ.still ?_
  refine JS.nil ?_
  refine EJ.thenN (hK2 ?_)
  refine CJ.ret ?_
  refine EJ.ret1 rfl (Res.agg rfl (.s (.s .z)) (by simpa [*] using ag42)) fun w hH => ?_
  replace hH := hH.sublist (.cons_cons _ (.cons_cons _ (.cons _ (List.Sublist.refl _))))
  exact ⟨_, _, _, _, _, rfl, hH⟩
set_option maxRecDepth 10000 in
theorem CloneI_c {B : World} {H0 H : HP} {L : List SA} {w : World} {qxs : Option Addr} {cxs : Nat} {xs : List Int} (hxs : Ints H qxs xs) (hn : xs.length ≤ 1048576) (hH : Hp B H0 H L w) :
    Calls Try.prog 77 [.slice qxs xs.length cxs].toArray w fun e w' => ∃ q c, e = .returned (.slice q xs.length c) ∧ Hp B H0 H (own 2 1 q xs.length c (intsC xs) :: L) w' := by
  refine CJ.enter Try.func77 rfl 8 rfl rfl [(0, .slice qxs xs.length cxs)] rfl hH ?_
  clear hH
  refine CJ.seq fun _ hK1 _ => ?_
  refine CJ.region ?_
  refine J.p (PR.assign rfl) rfl ?_
  refine J.nil ?_
  refine EJ.thenN (hK1 ?_)
  refine CJ.seq fun _ hK2 _ => ?_
  refine CJ.seq fun _ hK3 _ => ?_
  refine CJ.region ?_
  refine J.p (PR.move rfl) rfl ?_
  refine J.p (PR.eqlNil u26 rfl rfl) rfl ?_
  refine J.nil ?_
  refine EJ.thenN (hK3 ?_)
  refine CJ.cond rfl (fun h4 => ?_) (fun h4 => ?_)
  ·
    refine CJ.seq fun _ hK4 _ => ?_
    refine CJ.region ?_
    refine J.p (PR.assign rfl) rfl ?_
    refine J.nil ?_
    refine EJ.thenN (hK4 ?_)
    refine CJ.ret ?_
    refine EJ.thenR ?_
    refine EJ.ret1 rfl (Res.tmp rfl) fun w hH => ?_
    replace hH := hH.sublist (List.Sublist.refl _)
    have e1 := hxs.none_nil h4
    subst e1
    exact ⟨none, 0, rfl, hH.own0 2 1⟩
  ·
    refine CJ.skip ?_
    refine EJ.thenN (hK2 ?_)
    refine CJ.seq fun _ hK5 _ => ?_
    refine CJ.region ?_
    refine J.mk (MK.lit0I u26 sz2) rfl fun qo5 co5 => ?_
    refine J.p (PR.move rfl) rfl ?_
    refine J.appendHI u26 ze2 sz2 by2 rfl rfl hxs (by simp; omega) At.z (fun _ _ => At.z) rfl fun qo7 co7 => ?_
    refine J.p (PR.assign rfl) rfl ?_
    refine J.nil ?_
    refine EJ.thenN (hK5 ?_)
    refine CJ.ret ?_
    refine EJ.ret1 rfl (Res.tmp rfl) fun w hH => ?_
    replace hH := hH.sublist (.cons_cons _ (List.Sublist.refl _))
    exact ⟨_, _, rfl, hH⟩

def freeD (ds : List Int) : List Int := if isDeg ds then ds else []
def freeF (ds : List Int) : List (List Term) := if isDeg ds then List.replicate ds.length [] else []
def freeC (ds : List Int) : Int := if isDeg ds then 0 else 1


theorem freeF_wf (ds : List Int) : Wfss (freeF ds) := by
  unfold freeF
  split
  · exact Wfss.nils _
  · exact fun f hf => by simp at hf
theorem freeF_nil (ds : List Int) : ∀ i, (fm (freeF ds) i).length ≤ 9223372036854775807 := fun i => by
  unfold freeF fm
  split
  · rw [List.getD_eq_getElem?_getD, List.getElem?_replicate]
    split <;> simp
  · simp
theorem tot_nils : ∀ m, tot (List.replicate m []) = 0
  | 0 => rfl
  | m + 1 => by simp [List.replicate_succ, tot, tot_nils m]
theorem freeF_tot (ds : List Int) : tot (freeF ds) = 0 := by
  unfold freeF
  split
  · exact tot_nils _
  · rfl
theorem freeF_len (ds : List Int) : (freeF ds).length ≤ 8 := by
  unfold freeF
  split
  · rename_i h; simpa using isDeg_len h
  · simp
theorem freeD_len (ds : List Int) : (freeD ds).length ≤ 8 := by
  unfold freeD
  split
  · rename_i h; exact isDeg_len h
  · simp

set_option maxRecDepth 10000 in
theorem sFreeAlgebra_c {B : World} {H0 H : HP} {L : List SA} {w : World} {qds : Option Addr} {cds : Nat} {ds : List Int} (hds : Ints H qds ds) (hn : ds.length ≤ 1048576) (hH : Hp B H0 H L w) :
    Calls Try.prog 40 [.slice qds ds.length cds].toArray w fun e w' => ∃ qd cd qf cf vs, e = .returned (.tuple #[.agg [.slice qd (freeD ds).length cd, .slice qf (freeF ds).length cf].toArray, .int .i64 (freeC ds)]) ∧ Hp B H0 H (own 2 1 qd (freeD ds).length cd (intsC (freeD ds)) :: ownFs 54 86 qf cf vs (freeF ds) :: L) w' := by
  refine CJ.enter Try.func40 rfl 10 rfl rfl [(0, .slice qds ds.length cds)] rfl hH ?_
  clear hH
  refine CJ.seq fun _ hK1 _ => ?_
  refine CJ.region ?_
  refine J.alloc ze42 rfl fun g2 => ?_
  refine J.p (PR.assign rfl) rfl ?_
  refine J.nil ?_
  refine EJ.thenN (hK1 ?_)
  refine CJ.seq fun _ hK2 _ => ?_
  refine CJ.seq fun _ hK3 _ => ?_
  refine CJ.region ?_
  refine J.p (PR.move rfl) rfl ?_
  refine J.call fn54 rfl rfl fun w hH => (l01Degrees_c hds (by omega) hH).mono ?_
  rintro _ w ⟨rfl, hH⟩
  refine ⟨_, rfl, fun a hF => J.of hF hH ?_⟩
  refine J.p (PR.not rfl) rfl ?_
  refine J.nil ?_
  refine EJ.thenN (hK3 ?_)
  refine CJ.cond rfl (fun h6 => ?_) (fun h6 => ?_)
  ·
    refine CJ.seq fun _ hK4 _ => ?_
    refine CJ.region ?_
    refine J.p (PR.buildZ bz42) rfl ?_
    refine J.storeAll rfl rfl (by first | exact bytesC_one _ | exact intsC_one _ | exact Term.c_one _ | simp [Value.oneCell']) (by simpa [*] using sz42) (by simp [*]) At.z ?_
    refine J.p (PR.assign rfl) rfl ?_
    refine J.nil ?_
    refine EJ.thenN (hK4 ?_)
    refine CJ.ret ?_
    refine EJ.thenR ?_
    refine EJ.ret2 rfl (Res.agg rfl At.z (by simpa [*] using ag42)) (Res.tmp rfl) fun w hH => ?_
    replace hH := hH.sublist (.cons _ (List.Sublist.refl _))
    have e1 : freeD ds = [] := if_neg (by rw [nott h6]; simp)
    have e2 : freeF ds = [] := if_neg (by rw [nott h6]; simp)
    have e3 : freeC ds = 1 := if_neg (by rw [nott h6]; simp)
    rw [e1, e2, e3]
    exact ⟨none, 0, none, 0, nilVs, rfl, (hH.ownFsNil 54 86).own0 2 1⟩
  ·
    refine CJ.skip ?_
    refine EJ.thenN (hK2 ?_)
    refine CJ.seq fun _ hK5 _ => ?_
    refine CJ.region ?_
    refine J.p (PR.move rfl) rfl ?_
    refine J.call fn68 rfl rfl fun w hH => (l02Free_c hds (by omega) hH).mono ?_
    rintro _ w ⟨qdo9, cdo9, qfo9, cfo9, vso9, rfl, hH⟩
    refine ⟨_, rfl, fun a hF => J.of hF hH ?_⟩
    refine J.storeAll rfl rfl (by first | exact bytesC_one _ | exact intsC_one _ | exact Term.c_one _ | simp [Value.oneCell']) (by simpa [*] using sz42) (by simp [*]) (.s (.s .z)) ?_
    refine J.p (PR.assign rfl) rfl ?_
    refine J.nil ?_
    refine EJ.thenN (hK5 ?_)
    refine CJ.ret ?_
    refine EJ.ret2 rfl (Res.agg rfl (.s (.s .z)) (by simpa [*] using ag42)) (Res.tmp rfl) fun w hH => ?_
    replace hH := hH.sublist (.cons_cons _ (.cons_cons _ (.cons _ (List.Sublist.refl _))))
    have e1 : freeD ds = ds := if_pos (notf h6)
    have e2 : freeF ds = List.replicate ds.length [] := if_pos (notf h6)
    have e3 : freeC ds = 0 := if_pos (notf h6)
    rw [e1, e2, e3]
    exact ⟨_, _, _, _, _, rfl, hH⟩
set_option maxRecDepth 10000 in
theorem FreeAlgebra_c {B : World} {H0 H : HP} {L : List SA} {w : World} {qds : Option Addr} {cds : Nat} {ds : List Int} (hds : Ints H qds ds) (hn : ds.length ≤ 1048576) (hH : Hp B H0 H L w) :
    Calls Try.prog 41 [.slice qds ds.length cds].toArray w fun e w' => ∃ qd cd qf cf vs, e = .returned (.tuple #[.agg [.slice qd (freeD ds).length cd, .slice qf (freeF ds).length cf].toArray, .int .i64 (freeC ds)]) ∧ Hp B H0 H (own 2 1 qd (freeD ds).length cd (intsC (freeD ds)) :: ownFs 54 86 qf cf vs (freeF ds) :: L) w' := by
  refine CJ.enter Try.func41 rfl 14 rfl rfl [(0, .slice qds ds.length cds)] rfl hH ?_
  clear hH
  refine CJ.seq fun _ hK1 _ => ?_
  refine CJ.region ?_
  refine J.alloc ze42 rfl fun g2 => ?_
  refine J.p (PR.assign rfl) rfl ?_
  refine J.nil ?_
  refine EJ.thenN (hK1 ?_)
  refine CJ.seq fun _ hK2 _ => ?_
  refine CJ.seq fun _ hK3 _ => ?_
  refine CJ.region ?_
  refine J.p (PR.move rfl) rfl ?_
  refine J.call fn19 rfl rfl fun w hH => (AreDegrees_c hds (by omega) hH).mono ?_
  rintro _ w ⟨rfl, hH⟩
  refine ⟨_, rfl, fun a hF => J.of hF hH ?_⟩
  refine J.p (PR.not rfl) rfl ?_
  refine J.nil ?_
  refine EJ.thenN (hK3 ?_)
  refine CJ.cond rfl (fun h6 => ?_) (fun h6 => ?_)
  ·
    refine CJ.seq fun _ hK4 _ => ?_
    refine CJ.region ?_
    refine J.p (PR.buildZ bz42) rfl ?_
    refine J.storeAll rfl rfl (by first | exact bytesC_one _ | exact intsC_one _ | exact Term.c_one _ | simp [Value.oneCell']) (by simpa [*] using sz42) (by simp [*]) At.z ?_
    refine J.p (PR.assign rfl) rfl ?_
    refine J.nil ?_
    refine EJ.thenN (hK4 ?_)
    refine CJ.ret ?_
    refine EJ.thenR ?_
    refine EJ.ret2 rfl (Res.agg rfl At.z (by simpa [*] using ag42)) (Res.tmp rfl) fun w hH => ?_
    replace hH := hH.sublist (.cons _ (List.Sublist.refl _))
    have e1 : freeD ds = [] := if_neg (by rw [nott h6]; simp)
    have e2 : freeF ds = [] := if_neg (by rw [nott h6]; simp)
    have e3 : freeC ds = 1 := if_neg (by rw [nott h6]; simp)
    rw [e1, e2, e3]
    exact ⟨none, 0, none, 0, nilVs, rfl, (hH.ownFsNil 54 86).own0 2 1⟩
  ·
    refine CJ.skip ?_
    refine EJ.thenN (hK2 ?_)
    refine CJ.seq fun _ hK5 _ => ?_
    refine CJ.head [[], [0], [], [2], [3]] (by kernel_rfl) ?_
    refine HJ.op (fun gh => PR.move rfl) ?_
    refine HJ.callN fn77 (fun gh => rfl) (fun w X hH => CloneI_c hds (by omega) hH) ?_
    refine HJ.op (fun gh => PR.move rfl) ?_
    refine HJ.op (fun gh => PR.lenSlice u26 rfl rfl) ?_
    refine HJ.mk (fun gh => MK.makeF 86 u40 ze54 sz54 by54 rfl rfl rfl rfl (by omega)) ?_
    refine HJ.close 5 2 foll0 (by kernel_rfl) rfl rfl fun gh => ?_
    refine J.conv (us' := (8, _) :: (9, _) :: (10, _) :: (11, _) :: (12, _) :: _) (L' := _ :: _ :: _) rfl rfl ?_
    refine J.p (PR.build2 rfl rfl (fun w => bd42_0_1 _ _ _ _ _ _ w)) rfl ?_
    refine J.storeAll rfl rfl (by first | exact bytesC_one _ | exact intsC_one _ | exact Term.c_one _ | simp [Value.oneCell']) (by simpa [*] using sz42) (by simp [*]) (.s (.s .z)) ?_
    refine J.nil ?_
    refine EJ.still ?_
    refine JS.op (PR.assign rfl) rfl ?_
    refine JS.nil ?_
    refine EJ.thenN (hK5 ?_)
    refine CJ.ret ?_
    refine EJ.ret2 rfl (Res.agg rfl (.s (.s .z)) (by simpa [*] using ag42)) (Res.tmp rfl) fun w hH => ?_
    replace hH := hH.sublist (.cons_cons _ (.cons_cons _ (.cons _ (List.Sublist.refl _))))
    have e1 : freeD ds = ds := if_pos (notf h6)
    have e2 : freeF ds = List.replicate ds.length [] := if_pos (notf h6)
    have e3 : freeC ds = 0 := if_pos (notf h6)
    rw [e1, e2, e3]
    exact ⟨_, _, _, _, _, rfl, hH⟩
end Go.Proofs.Ytodmnjbchegnaaa.G
