/- The walks: what each Go function does, shown from its text. No condition. -/
import Derived.Test.YtpojpokldncglaaGMake
import Derived.Test.YtpojpokldncglaaProg
import Derived.Test.YtpojpokldncglaaWa
import Derived.Test.YtpojpokldncglaaWb
import Derived.Test.YtpojpokldncglaaWc
import Derived.Test.YtpojpokldncglaaWd
import Derived.Test.YtpojpokldncglaaWe
import Derived.Test.YtpojpokldncglaaWf
import Derived.Test.YtpojpokldncglaaWg
import Derived.Test.YtpojpokldncglaaWh
import Derived.Test.YtpojpokldncglaaWi
import Derived.Test.YtpojpokldncglaaWj
set_option linter.unusedVariables false
set_option linter.unusedSimpArgs false
namespace Go.Proofs.Ytpojpokldncglaa.G
open Go Go.RowKit
namespace Wk
theorem u22 : Try.prog.underlying 22 = some (TypeDesc.slice 2) := by kernel_rfl
theorem u39 : Try.prog.underlying 39 = some (TypeDesc.slice 29) := by kernel_rfl
theorem u41 : Try.prog.underlying 41 = some (TypeDesc.struct #[{ name := "Degrees", type := 22, offset := 0, embedded := false, tag := "", pkgPath := "", byteOffset := 0 }, { name := "Images", type := 39, offset := 1, embedded := false, tag := "", pkgPath := "", byteOffset := 24 }]) := by kernel_rfl
theorem sz2 : Size Try.prog 2 1 := by unfold Size; kernel_rfl
theorem sz29 : Size Try.prog 29 1 := by unfold Size; kernel_rfl
theorem sz41 : Size Try.prog 41 2 := by unfold Size; kernel_rfl
theorem by2 : Bytes Try.prog 2 8 := by unfold Bytes; kernel_rfl
theorem by29 : Bytes Try.prog 29 24 := by unfold Bytes; kernel_rfl
theorem ze2 : Zero Try.prog 2 [.int .i64 0] := by unfold Zero; kernel_rfl
theorem ze29 : Zero Try.prog 29 [.slice none 0 0] := by unfold Zero; kernel_rfl
theorem ze41 : Zero Try.prog 41 [.slice none 0 0, .slice none 0 0] := by unfold Zero; kernel_rfl
theorem ag41 : Agg Try.prog 41 2 := ⟨_, u41, rfl, by kernel_rfl⟩
theorem fn114 : Fn Try.prog 114 := ⟨_, Try.func114, by kernel_rfl, rfl⟩
theorem bd41_0_1 : ∀ (q0 : Option Addr) (m0 c0 : Nat) (q1 : Option Addr) (m1 c1 : Nat) w, (Instr.build 41 #[(0, .slice q0 m0 c0), (1, .slice q1 m1 c1)]).run Try.prog w = .ok (.agg [.slice q0 m0 c0, .slice q1 m1 c1].toArray) w := fun q0 m0 c0 q1 m1 c1 _ => by kernel_rfl
theorem foll0 : Try.prog.follows .mixedOrders = true := by kernel_rfl
end Wk
open Wk
set_option maxRecDepth 10000 in
theorem l01Own_c {B : World} {H0 H : HP} {L : List SA} {w : World} {qxs : Option Addr} {cxs : Nat} {xs : List Int}  (hxs : Ints H qxs xs) (hn : xs.length ≤ 1048576) (hH : Hp B H0 H L w) :
    Calls Try.prog 114 [.slice qxs xs.length cxs].toArray w fun e w' => ∃ q c, e = .returned (.slice q xs.length c) ∧ Hp B H0 H (own 2 1 q xs.length c (intsC xs) :: L) w' := by
  refine CJ.enter Try.func114 rfl 6 rfl rfl [(0, .slice qxs xs.length cxs)] rfl hH ?_
  clear hH
  refine CJ.seq fun _ hK1 _ => ?_
  refine CJ.region ?_
  refine J.p (PR.assign rfl) rfl ?_
  refine J.nil ?_
  refine EJ.thenN (hK1 ?_)
  refine CJ.seq fun _ hK2 _ => ?_
  refine CJ.region ?_
  refine J.mk (MK.lit0I u22 sz2) rfl fun qo3 co3 => ?_
  refine J.p (PR.move rfl) rfl ?_
  refine J.appendHI u22 ze2 sz2 by2 rfl rfl hxs (by simp; omega) At.z (fun _ _ => At.z) rfl fun qo5 co5 => ?_
  refine J.p (PR.assign rfl) rfl ?_
  refine J.nil ?_
  refine EJ.thenN (hK2 ?_)
  refine CJ.ret ?_
  refine EJ.ret1 rfl (Res.tmp rfl) fun w hH => ?_
  exact ⟨_, _, rfl, hH⟩
set_option maxRecDepth 10000 in
theorem l02Free_c {B : World} {H0 H : HP} {L : List SA} {w : World} {qds : Option Addr} {cds : Nat} {ds : List Int}  (hds : Ints H qds ds) (hn : ds.length ≤ 1048576) (hH : Hp B H0 H L w) :
    Calls Try.prog 84 [.slice qds ds.length cds].toArray w fun e w' => ∃ qd cd qf cf vs, e = .returned (.agg [.slice qd ds.length cd, .slice qf (List.replicate ds.length ([] : List Term)).length cf].toArray) ∧ Hp B H0 H (own 2 1 qd ds.length cd (intsC ds) :: ownFs 29 88 qf cf vs (List.replicate ds.length ([] : List Term)) :: L) w' := by
  refine CJ.enter Try.func84 rfl 9 rfl rfl [(0, .slice qds ds.length cds)] rfl hH ?_
  clear hH
  refine CJ.seq fun _ hK1 _ => ?_
  refine CJ.region ?_
  refine J.alloc ze41 rfl fun g2 => ?_
  refine J.nil ?_
  refine EJ.thenN (hK1 ?_)
  refine CJ.seq fun _ hK2 _ => ?_
  refine CJ.head [[], [0], [], [2], [3]] (by kernel_rfl) ?_
  refine HJ.op (fun gh => PR.move rfl) ?_
  refine HJ.callN fn114 (fun gh => rfl) (fun w X hH => l01Own_c hds (by omega) hH) ?_
  refine HJ.op (fun gh => PR.move rfl) ?_
  refine HJ.op (fun gh => PR.lenSlice u22 rfl rfl) ?_
  refine HJ.mk (fun gh => MK.makeF 88 u39 ze29 sz29 by29 rfl rfl rfl rfl (by omega)) ?_
  refine HJ.close 5 2 foll0 (by kernel_rfl) rfl rfl fun gh => ?_
  refine J.conv (us' := (3, _) :: (4, _) :: (5, _) :: (6, _) :: (7, _) :: _) (L' := _ :: _ :: _) rfl rfl ?_
  refine J.p (PR.build2 rfl rfl (fun w => bd41_0_1 _ _ _ _ _ _ w)) rfl ?_
  refine J.storeAll rfl rfl (by first | exact bytesC_one _ | exact intsC_one _ | exact Term.c_one _ | simp [Value.oneCell']) (by simpa [*] using sz41) (by simp [*]) (.s (.s .z)) ?_
  refine J.nil ?_
  refine EJ.still ?_
  refine JS.nil ?_
  refine EJ.thenN (hK2 ?_)
  refine CJ.ret ?_
  refine EJ.ret1 rfl (Res.agg rfl (.s (.s .z)) (by simpa [*] using ag41)) fun w hH => ?_
  replace hH := hH.sublist (.cons_cons _ (.cons_cons _ (.cons _ (List.Sublist.refl _))))
  exact ⟨_, _, _, _, _, rfl, hH⟩
set_option maxRecDepth 10000 in
theorem CloneI_c {B : World} {H0 H : HP} {L : List SA} {w : World} {qxs : Option Addr} {cxs : Nat} {xs : List Int}  (hxs : Ints H qxs xs) (hn : xs.length ≤ 1048576) (hH : Hp B H0 H L w) :
    Calls Try.prog 117 [.slice qxs xs.length cxs].toArray w fun e w' => ∃ q c, e = .returned (.slice q xs.length c) ∧ Hp B H0 H (own 2 1 q xs.length c (intsC xs) :: L) w' := by
  refine CJ.enter Try.func117 rfl 8 rfl rfl [(0, .slice qxs xs.length cxs)] rfl hH ?_
  clear hH
  refine CJ.seq fun _ hK1 _ => ?_
  refine CJ.region ?_
  refine J.p (PR.assign rfl) rfl ?_
  refine J.nil ?_
  refine EJ.thenN (hK1 ?_)
  refine CJ.seq fun _ hK2 _ => ?_
  refine CJ.seq fun _ hK3 _ => ?_
  refine CJ.region ?_
  refine J.p (PR.move rfl) rfl ?_
  refine J.p (PR.eqlNil u22 rfl rfl) rfl ?_
  refine J.nil ?_
  refine EJ.thenN (hK3 ?_)
  refine CJ.cond rfl (fun h4 => ?_) (fun h4 => ?_)
  ·
    refine CJ.seq fun _ hK4 _ => ?_
    refine CJ.region ?_
    refine J.p (PR.assign rfl) rfl ?_
    refine J.nil ?_
    refine EJ.thenN (hK4 ?_)
    refine CJ.ret ?_
    refine EJ.thenR ?_
    refine EJ.ret1 rfl (Res.tmp rfl) fun w hH => ?_
    replace hH := hH.sublist (List.Sublist.refl _)
    have e1 := hxs.none_nil h4
    subst e1
    exact ⟨none, 0, rfl, hH.own0 2 1⟩
  ·
    refine CJ.skip ?_
    refine EJ.thenN (hK2 ?_)
    refine CJ.seq fun _ hK5 _ => ?_
    refine CJ.region ?_
    refine J.mk (MK.lit0I u22 sz2) rfl fun qo5 co5 => ?_
    refine J.p (PR.move rfl) rfl ?_
    refine J.appendHI u22 ze2 sz2 by2 rfl rfl hxs (by simp; omega) At.z (fun _ _ => At.z) rfl fun qo7 co7 => ?_
    refine J.p (PR.assign rfl) rfl ?_
    refine J.nil ?_
    refine EJ.thenN (hK5 ?_)
    refine CJ.ret ?_
    refine EJ.ret1 rfl (Res.tmp rfl) fun w hH => ?_
    replace hH := hH.sublist (.cons_cons _ (List.Sublist.refl _))
    exact ⟨_, _, rfl, hH⟩

def freeD (ds : List Int) : List Int := if isDeg ds then ds else []
def freeF (ds : List Int) : List (List Term) := if isDeg ds then List.replicate ds.length [] else []
def freeC (ds : List Int) : Int := if isDeg ds then 0 else 1


theorem freeF_wf (ds : List Int) : Wfss (freeF ds) := by
  unfold freeF
  split
  · exact Wfss.nils _
  · exact fun f hf => by simp at hf
theorem freeF_nil (ds : List Int) : ∀ i, (fm (freeF ds) i).length ≤ 9223372036854775807 := fun i => by
  unfold freeF fm
  split
  · rw [List.getD_eq_getElem?_getD, List.getElem?_replicate]
    split <;> simp
  · simp
theorem tot_nils : ∀ m, tot (List.replicate m []) = 0
  | 0 => rfl
  | m + 1 => by simp [List.replicate_succ, tot, tot_nils m]
theorem freeF_tot (ds : List Int) : tot (freeF ds) = 0 := by
  unfold freeF
  split
  · exact tot_nils _
  · rfl
theorem freeF_len (ds : List Int) : (freeF ds).length ≤ 8 := by
  unfold freeF
  split
  · rename_i h; simpa using isDeg_len h
  · simp
theorem freeD_len (ds : List Int) : (freeD ds).length ≤ 8 := by
  unfold freeD
  split
  · rename_i h; exact isDeg_len h
  · simp

end Go.Proofs.Ytpojpokldncglaa.G
