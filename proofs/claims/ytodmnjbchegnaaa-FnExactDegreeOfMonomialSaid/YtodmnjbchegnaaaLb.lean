/- The walks: what each Go function does, shown from its text. No condition. -/
import Derived.Test.YtodmnjbchegnaaaGPar
import Derived.Test.YtodmnjbchegnaaaProg
import Derived.Test.YtodmnjbchegnaaaWa
import Derived.Test.YtodmnjbchegnaaaWb
import Derived.Test.YtodmnjbchegnaaaLa
import Derived.Test.YtodmnjbchegnaaaWc
set_option linter.unusedVariables false
set_option linter.unusedSimpArgs false
namespace Go.Proofs.Ytodmnjbchegnaaa.G
open Go Go.RowKit
namespace Lb
theorem u26 : Try.prog.underlying 26 = some (TypeDesc.slice 2) := by kernel_rfl
theorem u30 : Try.prog.underlying 30 = some (TypeDesc.array 8 5) := by kernel_rfl
theorem ag30 : Agg Try.prog 30 8 := ⟨_, u30, rfl, by kernel_rfl⟩
theorem fn18 : Fn Try.prog 18 := ⟨_, Try.func18, by kernel_rfl, rfl⟩
theorem fn20 : Fn Try.prog 20 := ⟨_, Try.func20, by kernel_rfl, rfl⟩
theorem fn22 : Fn Try.prog 22 := ⟨_, Try.func22, by kernel_rfl, rfl⟩
theorem fn24 : Fn Try.prog 24 := ⟨_, Try.func24, by kernel_rfl, rfl⟩
theorem fn25 : Fn Try.prog 25 := ⟨_, Try.func25, by kernel_rfl, rfl⟩
theorem foll0 : Try.prog.follows .mixedOrders = true := by kernel_rfl
end Lb
open Lb
set_option maxRecDepth 10000 in
theorem lawDegreeOfMonomial_c {B : World} {H0 H : HP} {L : List SA} {w : World} {qds : Option Addr} {cds : Nat} {ds : List Int} {m : List Int} (hds : Ints H qds ds) (hm : Mono m) (hH : Hp B H0 H L w) :
    Calls Try.prog 7 [.slice qds ds.length cds, .agg (bytesC m).toArray].toArray w fun e w' => e = .returned (.bool true) ∧ Below B.heap.size B w' := by
  refine CJ.enter Try.func7 rfl 43 rfl rfl [(0, .slice qds ds.length cds), (1, .agg (bytesC m).toArray)] rfl hH ?_
  have hml := hm.len
  clear hH
  refine CJ.seq fun _ hK1 _ => ?_
  refine CJ.region ?_
  refine J.box rfl rfl rfl fun g3 => ?_
  refine J.p (PR.assign rfl) rfl ?_
  refine J.nil ?_
  refine EJ.thenN (hK1 ?_)
  refine CJ.seq fun _ hK2 _ => ?_
  refine CJ.seq fun _ hK3 _ => ?_
  refine CJ.region ?_
  refine J.p (PR.move rfl) rfl ?_
  refine J.p (PR.lenSlice u26 rfl rfl) rfl ?_
  refine J.p (PR.gtr rfl rfl) rfl ?_
  refine J.nil ?_
  refine EJ.thenN (hK3 ?_)
  refine CJ.condD rfl (fun hc12 => ?_) (fun hc12 => ?_)
  ·
    refine CJ.seq fun _ hK4 _ => ?_
    refine CJ.region ?_
    refine J.p (PR.assign rfl) rfl ?_
    refine J.nil ?_
    refine EJ.thenN (hK4 ?_)
    refine CJ.ret ?_
    refine EJ.thenR ?_
    refine EJ.ret1 rfl (Res.tmp rfl) fun w hH => ?_
    replace hH := hH.tail
    first | exact ⟨rfl, hH.below⟩ | exact absurd rfl hc12p | exact absurd rfl hc12 | (simp at hc12; done)
  ·
    refine CJ.skip ?_
    refine EJ.thenN (hK2 ?_)
    refine CJ.seq fun _ hK5 _ => ?_
    refine CJ.regionQ 3 2 (fun i => ([[], [0], []] : List (List Nat)).getD i []) (fun i x => match i with | 0 => .slice qds ds.length cds | 1 => .slice (some ⟨x.1, 0, none⟩) ds.length ds.length | 2 => .agg (bytesC m).toArray | _ => .bool false) (fun i x => match i with | 1 => [obj x.1 (.cells (intsC ds).toArray 2 (0, 0))] | _ => []) foll0 (by kernel_rfl) (by kernel_rfl) rfl ?_ ?_
    · intro i hi gh X o ho
      match i, hi, ho with
      | 0, _, ho => obtain rfl : _ = o := Option.some.inj ho; exact OpStep.p (v := .slice qds ds.length cds) (PR.move rfl)
      | 1, _, ho => obtain rfl : _ = o := Option.some.inj ho; exact OpStep.call fn18 rfl fun w hH => (toInt64S_c hds (by omega) hH).mono (by rintro e w' ⟨g, rfl, hH⟩; exact ⟨(g, 0), rfl, hH⟩)
      | 2, _, ho => obtain rfl : _ = o := Option.some.inj ho; exact OpStep.p (v := .agg (bytesC m).toArray) (PR.loadAll rfl At.z (by simpa [*] using ag30))
      | k + 3, hi, _ => exact absurd hi (by omega)
    ·
      intro gh
      refine J.conv (us' := (14, .slice qds ds.length cds) :: (15, .slice (some ⟨(gh 1).1, 0, none⟩) ds.length ds.length) :: (16, .agg (bytesC m).toArray) :: _) (L' := obj (gh 1).1 (.cells (intsC ds).toArray 2 (0, 0)) :: _) rfl rfl ?_
      refine J.call fn22 rfl rfl fun w hH => (toMonomial_c hm hH).mono ?_
      rintro _ w ⟨rfl, hH⟩
      refine ⟨_, rfl, fun a hF => J.of hF hH ?_⟩
      refine J.freezeRow .z fun Hp3_1 hlep3_1 hcp3_1 => ?_
      have hxp3_1 := Ints.of hcp3_1
      replace hds := hds.le hlep3_1
      refine J.call fn24 rfl rfl fun w hH => (sDegreeOfMonomial_c hxp3_1 hm (by omega) hH).mono ?_
      rintro _ w ⟨rfl, hH⟩
      refine ⟨_, rfl, fun a hF => J.of hF hH ?_⟩
      refine J.nil ?_
      refine EJ.still ?_
      refine JS.op (PR.move rfl) rfl ?_
      refine JS.op (PR.extract rfl rfl) rfl ?_
      refine JS.op (PR.extract rfl rfl) rfl ?_
      refine JS.op (PR.assign rfl) rfl ?_
      refine JS.op (PR.assign rfl) rfl ?_
      refine JS.nil ?_
      refine EJ.thenN (hK5 ?_)
      refine CJ.seq fun _ hK6 _ => ?_
      refine CJ.region ?_
      refine J.p (PR.move rfl) rfl ?_
      refine J.call fn18 rfl rfl fun w hH => (toInt64S_c hds (by omega) hH).mono ?_
      rintro _ w ⟨g22, rfl, hH⟩
      refine ⟨_, rfl, fun a hF => J.of hF hH ?_⟩
      refine J.p (PR.assign rfl) rfl ?_
      refine J.nil ?_
      refine EJ.thenN (hK6 ?_)
      refine CJ.seq fun _ hK7 _ => ?_
      refine CJ.region ?_
      refine J.p (PR.move rfl) rfl ?_
      refine J.p (PR.loadAll rfl (.s .z) (by simpa [*] using ag30)) rfl ?_
      refine J.call fn22 rfl rfl fun w hH => (toMonomial_c hm hH).mono ?_
      rintro _ w ⟨rfl, hH⟩
      refine ⟨_, rfl, fun a hF => J.of hF hH ?_⟩
      refine J.freezeRow .z fun Hg22 hleg22 hcg22 => ?_
      have hxg22 := Ints.of hcg22
      replace hds := hds.le hleg22
      replace hxp3_1 := hxp3_1.le hleg22
      refine J.call fn25 rfl rfl fun w hH => (DegreeOfMonomial_c hxg22 hm (by omega) hH).mono ?_
      rintro _ w ⟨rfl, hH⟩
      refine ⟨_, rfl, fun a hF => J.of hF hH ?_⟩
      refine J.p (PR.move rfl) rfl ?_
      refine J.p (PR.extract rfl rfl) rfl ?_
      refine J.p (PR.extract rfl rfl) rfl ?_
      refine J.p (PR.assign rfl) rfl ?_
      refine J.p (PR.assign rfl) rfl ?_
      refine J.nil ?_
      refine EJ.thenN (hK7 ?_)
      refine CJ.seq fun _ hK8 _ => ?_
      refine CJ.seq fun _ hK9 _ => ?_
      refine CJ.region ?_
      refine J.p (PR.move rfl) rfl ?_
      refine J.p (PR.move rfl) rfl ?_
      refine J.p (PR.neq rfl rfl) rfl ?_
      refine J.p (PR.move rfl) rfl ?_
      refine J.splitB (jd := 33) rfl (fun hg33 => ?_) (fun hg33 => ?_)
      ·
        try have hg33p := of_decide_eq_true hg33
        refine J.gn rfl rfl rfl hg33 ?_
        refine J.gn rfl rfl rfl hg33 ?_
        refine J.gn rfl rfl rfl hg33 ?_
        refine J.p (PR.pickT rfl hg33 rfl) rfl ?_
        refine J.nil ?_
        refine EJ.thenN (hK9 ?_)
        refine CJ.condT rfl ?_
        refine CJ.seq fun _ hK10 _ => ?_
        refine CJ.region ?_
        refine J.p (PR.assign rfl) rfl ?_
        refine J.nil ?_
        refine EJ.thenN (hK10 ?_)
        refine CJ.ret ?_
        refine EJ.thenR ?_
        refine EJ.ret1 rfl (Res.tmp rfl) fun w hH => ?_
        replace hH := hH.tail
        first | exact ⟨rfl, hH.below⟩ | exact absurd rfl hg33p | exact absurd rfl hg33 | (simp at hg33; done)
      ·
        try have hg33p := of_decide_eq_false hg33
        refine J.gy (PR.move rfl) rfl rfl rfl hg33 ?_
        refine J.gy (PR.move rfl) rfl rfl rfl hg33 ?_
        refine J.gy (PR.neq rfl rfl) rfl rfl rfl hg33 ?_
        refine J.p (PR.pickF rfl hg33 rfl) rfl ?_
        refine J.nil ?_
        refine EJ.thenN (hK9 ?_)
        refine CJ.condD rfl (fun hc37 => ?_) (fun hc37 => ?_)
        ·
          refine CJ.seq fun _ hK11 _ => ?_
          refine CJ.region ?_
          refine J.p (PR.assign rfl) rfl ?_
          refine J.nil ?_
          refine EJ.thenN (hK11 ?_)
          refine CJ.ret ?_
          refine EJ.thenR ?_
          refine EJ.ret1 rfl (Res.tmp rfl) fun w hH => ?_
          replace hH := hH.tail
          first | exact ⟨rfl, hH.below⟩ | exact absurd rfl hc37p | exact absurd rfl hc37 | (simp at hc37; done)
        ·
          refine CJ.skip ?_
          refine EJ.thenN (hK8 ?_)
          refine CJ.seq fun _ hK12 _ => ?_
          refine CJ.seq fun _ hK13 _ => ?_
          refine CJ.region ?_
          refine J.p (PR.move rfl) rfl ?_
          refine J.p (PR.move rfl) rfl ?_
          refine J.call fn18 rfl rfl fun w hH => (toInt64S_c hds (by omega) hH).mono ?_
          rintro _ w ⟨g40, rfl, hH⟩
          refine ⟨_, rfl, fun a hF => J.of hF hH ?_⟩
          refine J.freezeRow .z fun Hg40 hleg40 hcg40 => ?_
          have hxg40 := Ints.of hcg40
          replace hds := hds.le hleg40
          replace hxp3_1 := hxp3_1.le hleg40
          replace hxg22 := hxg22.le hleg40
          refine J.call fn20 rfl rfl fun w hH => (eqInt64S_c hxg22 hxg40 (by omega) hH).mono ?_
          rintro _ w ⟨rfl, hH⟩
          refine ⟨_, rfl, fun a hF => J.of hF hH ?_⟩
          refine J.p (PR.not rfl) rfl ?_
          refine J.nil ?_
          refine EJ.thenN (hK13 ?_)
          refine CJ.cond rfl (fun hc42 => ?_) (fun hc42 => ?_)
          ·
            refine CJ.seq fun _ hK14 _ => ?_
            refine CJ.region ?_
            refine J.p (PR.assign rfl) rfl ?_
            refine J.nil ?_
            refine EJ.thenN (hK14 ?_)
            refine CJ.ret ?_
            refine EJ.thenR ?_
            refine EJ.ret1 rfl (Res.tmp rfl) fun w hH => ?_
            replace hH := hH.tail
            first | exact ⟨rfl, hH.below⟩ | exact absurd rfl hc42p | exact absurd rfl hc42 | (simp at hc42; done)
          ·
            refine CJ.skip ?_
            refine EJ.thenN (hK12 ?_)
            refine CJ.seq fun _ hK15 _ => ?_
            refine CJ.region ?_
            refine J.p (PR.assign rfl) rfl ?_
            refine J.nil ?_
            refine EJ.thenN (hK15 ?_)
            refine CJ.ret ?_
            refine EJ.ret1 rfl (Res.tmp rfl) fun w hH => ?_
            replace hH := hH.tail
            first | exact ⟨rfl, hH.below⟩ | exact absurd rfl hc42p | exact absurd rfl hc42 | (simp at hc42; done)
end Go.Proofs.Ytodmnjbchegnaaa.G
