/- The walks: what each Go function does, shown from its text. No condition. -/
import Derived.Test.YtodmnjbchegnaaaGPar
import Derived.Test.YtodmnjbchegnaaaProg
import Derived.Test.YtodmnjbchegnaaaWa
import Derived.Test.YtodmnjbchegnaaaWb
set_option linter.unusedVariables false
set_option linter.unusedSimpArgs false
namespace Go.Proofs.Ytodmnjbchegnaaa.G
open Go Go.RowKit
namespace La
theorem u4 : Try.prog.underlying 4 = some (TypeDesc.bool) := by kernel_rfl
theorem u26 : Try.prog.underlying 26 = some (TypeDesc.slice 2) := by kernel_rfl
theorem u30 : Try.prog.underlying 30 = some (TypeDesc.array 8 5) := by kernel_rfl
theorem u32 : Try.prog.underlying 32 = some (TypeDesc.array 8 5) := by kernel_rfl
theorem ag30 : Agg Try.prog 30 8 := ⟨_, u30, rfl, by kernel_rfl⟩
theorem ag32 : Agg Try.prog 32 8 := ⟨_, u32, rfl, by kernel_rfl⟩
theorem fn17 : Fn Try.prog 17 := ⟨_, Try.func17, by kernel_rfl, rfl⟩
theorem fn18 : Fn Try.prog 18 := ⟨_, Try.func18, by kernel_rfl, rfl⟩
theorem fn19 : Fn Try.prog 19 := ⟨_, Try.func19, by kernel_rfl, rfl⟩
theorem fn20 : Fn Try.prog 20 := ⟨_, Try.func20, by kernel_rfl, rfl⟩
theorem fn21 : Fn Try.prog 21 := ⟨_, Try.func21, by kernel_rfl, rfl⟩
theorem fn22 : Fn Try.prog 22 := ⟨_, Try.func22, by kernel_rfl, rfl⟩
theorem fn23 : Fn Try.prog 23 := ⟨_, Try.func23, by kernel_rfl, rfl⟩
theorem fn54 : Fn Try.prog 54 := ⟨_, Try.func54, by kernel_rfl, rfl⟩
theorem fn58 : Fn Try.prog 58 := ⟨_, Try.func58, by kernel_rfl, rfl⟩
theorem fn59 : Fn Try.prog 59 := ⟨_, Try.func59, by kernel_rfl, rfl⟩
theorem foll0 : Try.prog.follows .mixedOrders = true := by kernel_rfl
end La
open La
set_option maxRecDepth 10000 in
theorem IsMonomial_c {B : World} {H0 H : HP} {L : List SA} {w : World} {qds : Option Addr} {cds : Nat} {ds : List Int} {m : List Int} (hds : Ints H qds ds) (hm : Mono m) (hn : ds.length ≤ 1048576) (hH : Hp B H0 H L w) :
    Calls Try.prog 23 [.slice qds ds.length cds, .agg (bytesC m).toArray].toArray w fun e w' => e = .returned (.bool (isDeg ds && isMono ds m)) ∧ Hp B H0 H L w' := by
  refine CJ.enter Try.func23 rfl 12 rfl rfl [(0, .slice qds ds.length cds), (1, .agg (bytesC m).toArray)] rfl hH ?_
  have hml := hm.len
  clear hH
  refine CJ.seq fun _ hK1 _ => ?_
  refine CJ.region ?_
  refine J.box rfl rfl rfl fun g3 => ?_
  refine J.p (PR.assign rfl) rfl ?_
  refine J.nil ?_
  refine EJ.thenN (hK1 ?_)
  refine CJ.seq fun _ hK2 _ => ?_
  refine CJ.region ?_
  refine J.p (PR.move rfl) rfl ?_
  refine J.call fn19 rfl rfl fun w hH => (AreDegrees_c hds (by omega) hH).mono ?_
  rintro _ w ⟨rfl, hH⟩
  refine ⟨_, rfl, fun a hF => J.of hF hH ?_⟩
  refine J.p (PR.move rfl) rfl ?_
  refine J.splitB (jd := 7) rfl (fun hg7 => ?_) (fun hg7 => ?_)
  ·
    try have hg7p := of_decide_eq_true hg7
    refine J.gy (PR.move rfl) rfl rfl rfl hg7 ?_
    refine J.gy (PR.loadAll rfl At.z (by simpa [*] using ag32)) rfl rfl rfl hg7 ?_
    refine J.gcall fn59 rfl rfl hg7 rfl rfl fun w hH => (isMonomial_c hds hm (by omega) hH).mono ?_
    rintro _ w ⟨rfl, hH⟩
    refine ⟨_, rfl, fun a hF => J.of hF hH ?_⟩
    refine J.p (PR.pickT rfl hg7 rfl) rfl ?_
    refine J.p (PR.assign rfl) rfl ?_
    refine J.nil ?_
    refine EJ.thenN (hK2 ?_)
    refine CJ.ret ?_
    refine EJ.ret1 rfl (Res.tmp rfl) fun w hH => ?_
    replace hH := hH.tail
    exact ⟨rb (by rw [hg7]; rfl), hH⟩
  ·
    try have hg7p := of_decide_eq_false hg7
    refine J.gn rfl rfl rfl hg7 ?_
    refine J.gn rfl rfl rfl hg7 ?_
    refine J.gn rfl rfl rfl hg7 ?_
    refine J.p (PR.pickF rfl hg7 rfl) rfl ?_
    refine J.p (PR.assign rfl) rfl ?_
    refine J.nil ?_
    refine EJ.thenN (hK2 ?_)
    refine CJ.ret ?_
    refine EJ.ret1 rfl (Res.tmp rfl) fun w hH => ?_
    replace hH := hH.tail
    exact ⟨rb (by rw [hg7]; rfl), hH⟩
set_option maxRecDepth 10000 in
theorem sIsMonomial_c {B : World} {H0 H : HP} {L : List SA} {w : World} {qds : Option Addr} {cds : Nat} {ds : List Int} {m : List Int} (hds : Ints H qds ds) (hm : Mono m) (hn : ds.length ≤ 1048576) (hH : Hp B H0 H L w) :
    Calls Try.prog 21 [.slice qds ds.length cds, .agg (bytesC m).toArray].toArray w fun e w' => e = .returned (.bool (isDeg ds && isMono ds m)) ∧ Hp B H0 H L w' := by
  refine CJ.enter Try.func21 rfl 12 rfl rfl [(0, .slice qds ds.length cds), (1, .agg (bytesC m).toArray)] rfl hH ?_
  have hml := hm.len
  clear hH
  refine CJ.seq fun _ hK1 _ => ?_
  refine CJ.region ?_
  refine J.box rfl rfl rfl fun g3 => ?_
  refine J.p (PR.assign rfl) rfl ?_
  refine J.nil ?_
  refine EJ.thenN (hK1 ?_)
  refine CJ.seq fun _ hK2 _ => ?_
  refine CJ.region ?_
  refine J.p (PR.move rfl) rfl ?_
  refine J.call fn54 rfl rfl fun w hH => (l01Degrees_c hds (by omega) hH).mono ?_
  rintro _ w ⟨rfl, hH⟩
  refine ⟨_, rfl, fun a hF => J.of hF hH ?_⟩
  refine J.p (PR.move rfl) rfl ?_
  refine J.splitB (jd := 7) rfl (fun hg7 => ?_) (fun hg7 => ?_)
  ·
    try have hg7p := of_decide_eq_true hg7
    refine J.gy (PR.move rfl) rfl rfl rfl hg7 ?_
    refine J.gy (PR.loadAll rfl At.z (by simpa [*] using ag32)) rfl rfl rfl hg7 ?_
    refine J.gcall fn58 rfl rfl hg7 rfl rfl fun w hH => (l01Mono_c hds hm (by omega) (isDeg_pos hg7) hH).mono ?_
    rintro _ w ⟨rfl, hH⟩
    refine ⟨_, rfl, fun a hF => J.of hF hH ?_⟩
    refine J.p (PR.pickT rfl hg7 rfl) rfl ?_
    refine J.p (PR.assign rfl) rfl ?_
    refine J.nil ?_
    refine EJ.thenN (hK2 ?_)
    refine CJ.ret ?_
    refine EJ.ret1 rfl (Res.tmp rfl) fun w hH => ?_
    replace hH := hH.tail
    exact ⟨rb (by rw [hg7]; rfl), hH⟩
  ·
    try have hg7p := of_decide_eq_false hg7
    refine J.gn rfl rfl rfl hg7 ?_
    refine J.gn rfl rfl rfl hg7 ?_
    refine J.gn rfl rfl rfl hg7 ?_
    refine J.p (PR.pickF rfl hg7 rfl) rfl ?_
    refine J.p (PR.assign rfl) rfl ?_
    refine J.nil ?_
    refine EJ.thenN (hK2 ?_)
    refine CJ.ret ?_
    refine EJ.ret1 rfl (Res.tmp rfl) fun w hH => ?_
    replace hH := hH.tail
    exact ⟨rb (by rw [hg7]; rfl), hH⟩
set_option maxRecDepth 10000 in
theorem lawAreDegrees_c {B : World} {H0 H : HP} {L : List SA} {w : World} {qds : Option Addr} {cds : Nat} {ds : List Int} (hds : Ints H qds ds) (hH : Hp B H0 H L w) :
    Calls Try.prog 5 [.slice qds ds.length cds].toArray w fun e w' => e = .returned (.bool true) ∧ Below B.heap.size B w' := by
  refine CJ.enter Try.func5 rfl 24 rfl rfl [(0, .slice qds ds.length cds)] rfl hH ?_
  clear hH
  refine CJ.seq fun _ hK1 _ => ?_
  refine CJ.region ?_
  refine J.p (PR.assign rfl) rfl ?_
  refine J.nil ?_
  refine EJ.thenN (hK1 ?_)
  refine CJ.seq fun _ hK2 _ => ?_
  refine CJ.seq fun _ hK3 _ => ?_
  refine CJ.region ?_
  refine J.p (PR.move rfl) rfl ?_
  refine J.p (PR.lenSlice u26 rfl rfl) rfl ?_
  refine J.p (PR.gtr rfl rfl) rfl ?_
  refine J.nil ?_
  refine EJ.thenN (hK3 ?_)
  refine CJ.condD rfl (fun hc8 => ?_) (fun hc8 => ?_)
  ·
    refine CJ.seq fun _ hK4 _ => ?_
    refine CJ.region ?_
    refine J.p (PR.assign rfl) rfl ?_
    refine J.nil ?_
    refine EJ.thenN (hK4 ?_)
    refine CJ.ret ?_
    refine EJ.thenR ?_
    refine EJ.ret1 rfl (Res.tmp rfl) fun w hH => ?_
    exact ⟨rfl, hH.below⟩
  ·
    refine CJ.skip ?_
    refine EJ.thenN (hK2 ?_)
    refine CJ.seq fun _ hK5 _ => ?_
    refine CJ.region ?_
    refine J.p (PR.move rfl) rfl ?_
    refine J.call fn18 rfl rfl fun w hH => (toInt64S_c hds (by omega) hH).mono ?_
    rintro _ w ⟨g10, rfl, hH⟩
    refine ⟨_, rfl, fun a hF => J.of hF hH ?_⟩
    refine J.freezeRow .z fun Hg10 hleg10 hcg10 => ?_
    have hxg10 := Ints.of hcg10
    replace hds := hds.le hleg10
    refine J.call fn17 rfl rfl fun w hH => (sAreDegrees_c hxg10 (by omega) hH).mono ?_
    rintro _ w ⟨rfl, hH⟩
    refine ⟨_, rfl, fun a hF => J.of hF hH ?_⟩
    refine J.p (PR.assign rfl) rfl ?_
    refine J.nil ?_
    refine EJ.thenN (hK5 ?_)
    refine CJ.seq fun _ hK6 _ => ?_
    refine CJ.region ?_
    refine J.p (PR.move rfl) rfl ?_
    refine J.call fn18 rfl rfl fun w hH => (toInt64S_c hds (by omega) hH).mono ?_
    rintro _ w ⟨g13, rfl, hH⟩
    refine ⟨_, rfl, fun a hF => J.of hF hH ?_⟩
    refine J.p (PR.assign rfl) rfl ?_
    refine J.nil ?_
    refine EJ.thenN (hK6 ?_)
    refine CJ.seq fun _ hK7 _ => ?_
    refine CJ.region ?_
    refine J.p (PR.move rfl) rfl ?_
    refine J.freezeRow .z fun Hg13 hleg13 hcg13 => ?_
    have hxg13 := Ints.of hcg13
    replace hds := hds.le hleg13
    replace hxg10 := hxg10.le hleg13
    refine J.call fn19 rfl rfl fun w hH => (AreDegrees_c hxg13 (by omega) hH).mono ?_
    rintro _ w ⟨rfl, hH⟩
    refine ⟨_, rfl, fun a hF => J.of hF hH ?_⟩
    refine J.p (PR.assign rfl) rfl ?_
    refine J.nil ?_
    refine EJ.thenN (hK7 ?_)
    refine CJ.seq fun _ hK8 _ => ?_
    refine CJ.seq fun _ hK9 _ => ?_
    refine CJ.region ?_
    refine J.p (PR.move rfl) rfl ?_
    refine J.p (PR.move rfl) rfl ?_
    refine J.p (PR.neqB u4 rfl rfl) rfl ?_
    refine J.nil ?_
    refine EJ.thenN (hK9 ?_)
    refine CJ.condD rfl (fun hc18 => ?_) (fun hc18 => ?_)
    ·
      refine CJ.seq fun _ hK10 _ => ?_
      refine CJ.region ?_
      refine J.p (PR.assign rfl) rfl ?_
      refine J.nil ?_
      refine EJ.thenN (hK10 ?_)
      refine CJ.ret ?_
      refine EJ.thenR ?_
      refine EJ.ret1 rfl (Res.tmp rfl) fun w hH => ?_
      exact absurd rfl hc18
    ·
      refine CJ.skip ?_
      refine EJ.thenN (hK8 ?_)
      refine CJ.seq fun _ hK11 _ => ?_
      refine CJ.seq fun _ hK12 _ => ?_
      refine CJ.region ?_
      refine J.p (PR.move rfl) rfl ?_
      refine J.p (PR.move rfl) rfl ?_
      refine J.call fn18 rfl rfl fun w hH => (toInt64S_c hds (by omega) hH).mono ?_
      rintro _ w ⟨g21, rfl, hH⟩
      refine ⟨_, rfl, fun a hF => J.of hF hH ?_⟩
      refine J.freezeRow .z fun Hg21 hleg21 hcg21 => ?_
      have hxg21 := Ints.of hcg21
      replace hds := hds.le hleg21
      replace hxg10 := hxg10.le hleg21
      replace hxg13 := hxg13.le hleg21
      refine J.call fn20 rfl rfl fun w hH => (eqInt64S_c hxg13 hxg21 (by omega) hH).mono ?_
      rintro _ w ⟨rfl, hH⟩
      refine ⟨_, rfl, fun a hF => J.of hF hH ?_⟩
      refine J.p (PR.not rfl) rfl ?_
      refine J.nil ?_
      refine EJ.thenN (hK12 ?_)
      refine CJ.cond rfl (fun hc23 => ?_) (fun hc23 => ?_)
      ·
        refine CJ.seq fun _ hK13 _ => ?_
        refine CJ.region ?_
        refine J.p (PR.assign rfl) rfl ?_
        refine J.nil ?_
        refine EJ.thenN (hK13 ?_)
        refine CJ.ret ?_
        refine EJ.thenR ?_
        refine EJ.ret1 rfl (Res.tmp rfl) fun w hH => ?_
        simp at hc23
      ·
        refine CJ.skip ?_
        refine EJ.thenN (hK11 ?_)
        refine CJ.seq fun _ hK14 _ => ?_
        refine CJ.region ?_
        refine J.p (PR.assign rfl) rfl ?_
        refine J.nil ?_
        refine EJ.thenN (hK14 ?_)
        refine CJ.ret ?_
        refine EJ.ret1 rfl (Res.tmp rfl) fun w hH => ?_
        exact ⟨rfl, hH.below⟩
set_option maxRecDepth 10000 in
theorem lawIsMonomial_c {B : World} {H0 H : HP} {L : List SA} {w : World} {qds : Option Addr} {cds : Nat} {ds : List Int} {m : List Int} (hds : Ints H qds ds) (hm : Mono m) (hH : Hp B H0 H L w) :
    Calls Try.prog 6 [.slice qds ds.length cds, .agg (bytesC m).toArray].toArray w fun e w' => e = .returned (.bool true) ∧ Below B.heap.size B w' := by
  refine CJ.enter Try.func6 rfl 30 rfl rfl [(0, .slice qds ds.length cds), (1, .agg (bytesC m).toArray)] rfl hH ?_
  have hml := hm.len
  clear hH
  refine CJ.seq fun _ hK1 _ => ?_
  refine CJ.region ?_
  refine J.box rfl rfl rfl fun g3 => ?_
  refine J.p (PR.assign rfl) rfl ?_
  refine J.nil ?_
  refine EJ.thenN (hK1 ?_)
  refine CJ.seq fun _ hK2 _ => ?_
  refine CJ.seq fun _ hK3 _ => ?_
  refine CJ.region ?_
  refine J.p (PR.move rfl) rfl ?_
  refine J.p (PR.lenSlice u26 rfl rfl) rfl ?_
  refine J.p (PR.gtr rfl rfl) rfl ?_
  refine J.nil ?_
  refine EJ.thenN (hK3 ?_)
  refine CJ.condD rfl (fun hc10 => ?_) (fun hc10 => ?_)
  ·
    refine CJ.seq fun _ hK4 _ => ?_
    refine CJ.region ?_
    refine J.p (PR.assign rfl) rfl ?_
    refine J.nil ?_
    refine EJ.thenN (hK4 ?_)
    refine CJ.ret ?_
    refine EJ.thenR ?_
    refine EJ.ret1 rfl (Res.tmp rfl) fun w hH => ?_
    replace hH := hH.tail
    exact ⟨rfl, hH.below⟩
  ·
    refine CJ.skip ?_
    refine EJ.thenN (hK2 ?_)
    refine CJ.seq fun _ hK5 _ => ?_
    refine CJ.regionP 3 (fun i => ([[], [0], []] : List (List Nat)).getD i []) (fun i x => match i with | 0 => .slice qds ds.length cds | 1 => .slice (some ⟨x.1, 0, none⟩) ds.length ds.length | 2 => .agg (bytesC m).toArray | _ => .bool false) (fun i x => match i with | 1 => [obj x.1 (.cells (intsC ds).toArray 2 (0, 0))] | _ => []) foll0 (by kernel_rfl) (by kernel_rfl) rfl ?_ ?_
    · intro i hi gh X o ho
      match i, hi, ho with
      | 0, _, ho => obtain rfl : _ = o := Option.some.inj ho; exact OpStep.p (v := .slice qds ds.length cds) (PR.move rfl)
      | 1, _, ho => obtain rfl : _ = o := Option.some.inj ho; exact OpStep.call fn18 rfl fun w hH => (toInt64S_c hds (by omega) hH).mono (by rintro e w' ⟨g, rfl, hH⟩; exact ⟨(g, 0), rfl, hH⟩)
      | 2, _, ho => obtain rfl : _ = o := Option.some.inj ho; exact OpStep.p (v := .agg (bytesC m).toArray) (PR.loadAll rfl At.z (by simpa [*] using ag30))
      | k + 3, hi, _ => exact absurd hi (by omega)
    ·
      intro gh
      refine J.conv (us' := (11, .slice qds ds.length cds) :: (12, .slice (some ⟨(gh 1).1, 0, none⟩) ds.length ds.length) :: (13, .agg (bytesC m).toArray) :: _) (L' := obj (gh 1).1 (.cells (intsC ds).toArray 2 (0, 0)) :: _) rfl rfl ?_
      refine J.call fn22 rfl rfl fun w hH => (toMonomial_c hm hH).mono ?_
      rintro _ w ⟨rfl, hH⟩
      refine ⟨_, rfl, fun a hF => J.of hF hH ?_⟩
      refine J.freezeRow .z fun Hp3_1 hlep3_1 hcp3_1 => ?_
      have hxp3_1 := Ints.of hcp3_1
      replace hds := hds.le hlep3_1
      refine J.call fn21 rfl rfl fun w hH => (sIsMonomial_c hxp3_1 hm (by omega) hH).mono ?_
      rintro _ w ⟨rfl, hH⟩
      refine ⟨_, rfl, fun a hF => J.of hF hH ?_⟩
      refine J.p (PR.assign rfl) rfl ?_
      refine J.nil ?_
      refine EJ.thenN (hK5 ?_)
      refine CJ.seq fun _ hK6 _ => ?_
      refine CJ.region ?_
      refine J.p (PR.move rfl) rfl ?_
      refine J.call fn18 rfl rfl fun w hH => (toInt64S_c hds (by omega) hH).mono ?_
      rintro _ w ⟨g17, rfl, hH⟩
      refine ⟨_, rfl, fun a hF => J.of hF hH ?_⟩
      refine J.p (PR.assign rfl) rfl ?_
      refine J.nil ?_
      refine EJ.thenN (hK6 ?_)
      refine CJ.seq fun _ hK7 _ => ?_
      refine CJ.region ?_
      refine J.p (PR.move rfl) rfl ?_
      refine J.p (PR.loadAll rfl (.s .z) (by simpa [*] using ag30)) rfl ?_
      refine J.call fn22 rfl rfl fun w hH => (toMonomial_c hm hH).mono ?_
      rintro _ w ⟨rfl, hH⟩
      refine ⟨_, rfl, fun a hF => J.of hF hH ?_⟩
      refine J.freezeRow .z fun Hg17 hleg17 hcg17 => ?_
      have hxg17 := Ints.of hcg17
      replace hds := hds.le hleg17
      replace hxp3_1 := hxp3_1.le hleg17
      refine J.call fn23 rfl rfl fun w hH => (IsMonomial_c hxg17 hm (by omega) hH).mono ?_
      rintro _ w ⟨rfl, hH⟩
      refine ⟨_, rfl, fun a hF => J.of hF hH ?_⟩
      refine J.p (PR.assign rfl) rfl ?_
      refine J.nil ?_
      refine EJ.thenN (hK7 ?_)
      refine CJ.seq fun _ hK8 _ => ?_
      refine CJ.seq fun _ hK9 _ => ?_
      refine CJ.region ?_
      refine J.p (PR.move rfl) rfl ?_
      refine J.p (PR.move rfl) rfl ?_
      refine J.p (PR.neqB u4 rfl rfl) rfl ?_
      refine J.nil ?_
      refine EJ.thenN (hK9 ?_)
      refine CJ.condD rfl (fun hc24 => ?_) (fun hc24 => ?_)
      ·
        refine CJ.seq fun _ hK10 _ => ?_
        refine CJ.region ?_
        refine J.p (PR.assign rfl) rfl ?_
        refine J.nil ?_
        refine EJ.thenN (hK10 ?_)
        refine CJ.ret ?_
        refine EJ.thenR ?_
        refine EJ.ret1 rfl (Res.tmp rfl) fun w hH => ?_
        replace hH := hH.tail
        exact absurd rfl hc24
      ·
        refine CJ.skip ?_
        refine EJ.thenN (hK8 ?_)
        refine CJ.seq fun _ hK11 _ => ?_
        refine CJ.seq fun _ hK12 _ => ?_
        refine CJ.region ?_
        refine J.p (PR.move rfl) rfl ?_
        refine J.p (PR.move rfl) rfl ?_
        refine J.call fn18 rfl rfl fun w hH => (toInt64S_c hds (by omega) hH).mono ?_
        rintro _ w ⟨g27, rfl, hH⟩
        refine ⟨_, rfl, fun a hF => J.of hF hH ?_⟩
        refine J.freezeRow .z fun Hg27 hleg27 hcg27 => ?_
        have hxg27 := Ints.of hcg27
        replace hds := hds.le hleg27
        replace hxp3_1 := hxp3_1.le hleg27
        replace hxg17 := hxg17.le hleg27
        refine J.call fn20 rfl rfl fun w hH => (eqInt64S_c hxg17 hxg27 (by omega) hH).mono ?_
        rintro _ w ⟨rfl, hH⟩
        refine ⟨_, rfl, fun a hF => J.of hF hH ?_⟩
        refine J.p (PR.not rfl) rfl ?_
        refine J.nil ?_
        refine EJ.thenN (hK12 ?_)
        refine CJ.cond rfl (fun hc29 => ?_) (fun hc29 => ?_)
        ·
          refine CJ.seq fun _ hK13 _ => ?_
          refine CJ.region ?_
          refine J.p (PR.assign rfl) rfl ?_
          refine J.nil ?_
          refine EJ.thenN (hK13 ?_)
          refine CJ.ret ?_
          refine EJ.thenR ?_
          refine EJ.ret1 rfl (Res.tmp rfl) fun w hH => ?_
          replace hH := hH.tail
          simp at hc29
        ·
          refine CJ.skip ?_
          refine EJ.thenN (hK11 ?_)
          refine CJ.seq fun _ hK14 _ => ?_
          refine CJ.region ?_
          refine J.p (PR.assign rfl) rfl ?_
          refine J.nil ?_
          refine EJ.thenN (hK14 ?_)
          refine CJ.ret ?_
          refine EJ.ret1 rfl (Res.tmp rfl) fun w hH => ?_
          replace hH := hH.tail
          exact ⟨rfl, hH.below⟩
end Go.Proofs.Ytodmnjbchegnaaa.G
