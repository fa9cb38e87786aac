/- The laws' arguments: algebras counted and copied. No condition. -/
import Derived.Test.YtpojpokldncglaaGMap
import Derived.Test.YtpojpokldncglaaProg
import Derived.Test.YtpojpokldncglaaWa
import Derived.Test.YtpojpokldncglaaWb
import Derived.Test.YtpojpokldncglaaWc
import Derived.Test.YtpojpokldncglaaWd
import Derived.Test.YtpojpokldncglaaWe
import Derived.Test.YtpojpokldncglaaWf
import Derived.Test.YtpojpokldncglaaWg
import Derived.Test.YtpojpokldncglaaWh
import Derived.Test.YtpojpokldncglaaWi
import Derived.Test.YtpojpokldncglaaWj
import Derived.Test.YtpojpokldncglaaWk
import Derived.Test.YtpojpokldncglaaWl
import Derived.Test.YtpojpokldncglaaWm
import Derived.Test.YtpojpokldncglaaWn
import Derived.Test.YtpojpokldncglaaWo
import Derived.Test.YtpojpokldncglaaWp
import Derived.Test.YtpojpokldncglaaXa
import Derived.Test.YtpojpokldncglaaXb
import Derived.DeepKeys4
import Derived.Test.YtpojpokldncglaaXc
import Derived.Test.YtpojpokldncglaaXd
import Derived.Test.YtpojpokldncglaaXe
import Derived.Test.YtpojpokldncglaaXf
import Derived.Test.YtpojpokldncglaaXg
import Derived.Test.YtpojpokldncglaaXh
import Derived.Test.YtpojpokldncglaaXi
import Derived.Test.YtpojpokldncglaaXj
import Derived.Test.YtpojpokldncglaaXk
import Derived.Test.YtpojpokldncglaaXl
import Derived.Test.YtpojpokldncglaaXm
import Derived.Test.YtpojpokldncglaaXn
import Derived.Test.YtpojpokldncglaaXo
import Derived.Test.YtpojpokldncglaaXp
import Derived.Test.YtpojpokldncglaaXq
import Derived.Test.YtpojpokldncglaaXr
set_option linter.unusedVariables false
set_option linter.unusedSimpArgs false
namespace Go.Proofs.Ytpojpokldncglaa.G
open Go Go.RowKit
namespace Lh
theorem u4 : Try.prog.underlying 4 = some (TypeDesc.bool) := by kernel_rfl
theorem u41 : Try.prog.underlying 41 = some (TypeDesc.struct #[{ name := "Degrees", type := 22, offset := 0, embedded := false, tag := "", pkgPath := "", byteOffset := 0 }, { name := "Images", type := 39, offset := 1, embedded := false, tag := "", pkgPath := "", byteOffset := 24 }]) := by kernel_rfl
theorem u49 : Try.prog.underlying 49 = some (TypeDesc.struct #[{ name := "Degrees", type := 22, offset := 0, embedded := false, tag := "", pkgPath := "", byteOffset := 0 }, { name := "Images", type := 47, offset := 1, embedded := false, tag := "", pkgPath := "", byteOffset := 24 }]) := by kernel_rfl
theorem sz41 : Size Try.prog 41 2 := by unfold Size; kernel_rfl
theorem ze41 : Zero Try.prog 41 [.slice none 0 0, .slice none 0 0] := by unfold Zero; kernel_rfl
theorem ag41 : Agg Try.prog 41 2 := ⟨_, u41, rfl, by kernel_rfl⟩
theorem ag49 : Agg Try.prog 49 2 := ⟨_, u49, rfl, by kernel_rfl⟩
theorem fn30 : Fn Try.prog 30 := ⟨_, Try.func30, by kernel_rfl, rfl⟩
theorem fn33 : Fn Try.prog 33 := ⟨_, Try.func33, by kernel_rfl, rfl⟩
theorem fn34 : Fn Try.prog 34 := ⟨_, Try.func34, by kernel_rfl, rfl⟩
theorem fn35 : Fn Try.prog 35 := ⟨_, Try.func35, by kernel_rfl, rfl⟩
theorem fn36 : Fn Try.prog 36 := ⟨_, Try.func36, by kernel_rfl, rfl⟩
theorem foll0 : Try.prog.follows .mixedOrders = true := by kernel_rfl
end Lh
open Lh
set_option maxHeartbeats 2000000 in
set_option maxRecDepth 10000 in
theorem lawIsAlgebra_c {B : World} {H0 H : HP} {L : List SA} {w : World} {qad qaf : Option Addr} {cad caf : Nat} {ad : List Int} {af : List (List Term)}  (had : Ints H qad ad) (haf : Forms H qaf af) (hn : ad.length ≤ 9223372036854775807 ∧ af.length ≤ 9223372036854775807) (hl : ∀ i, i < af.length → (fm af i).length ≤ 9223372036854775807) (hH : Hp B H0 H L w) :
    Calls Try.prog 5 [.agg [.slice qad ad.length cad, .slice qaf af.length caf].toArray].toArray w fun e w' => e = .returned (.bool true) ∧ Below B.heap.size B w' := by
  refine CJ.enter Try.func5 rfl 27 rfl rfl [(0, .agg [.slice qad ad.length cad, .slice qaf af.length caf].toArray)] rfl hH ?_
  clear hH
  refine CJ.seq fun _ hK1 _ => ?_
  refine CJ.region ?_
  refine J.box rfl rfl rfl fun g1 => ?_
  refine J.p (PR.assign rfl) rfl ?_
  refine J.nil ?_
  refine EJ.thenN (hK1 ?_)
  refine CJ.seq fun _ hK2 _ => ?_
  refine CJ.region ?_
  refine J.p (PR.assign rfl) rfl ?_
  refine J.nil ?_
  refine EJ.thenN (hK2 ?_)
  refine CJ.seq fun _ hK3 _ => ?_
  refine CJ.region ?_
  refine J.p (PR.loadAll rfl At.z (by simpa [*] using ag49)) rfl ?_
  refine J.p (PR.move rfl) rfl ?_
  refine J.call fn33 rfl rfl fun w hH => (szAlgebra_c had haf (by omega) hl hH).mono ?_
  rintro _ w ⟨rfl, hH⟩
  refine ⟨_, rfl, fun a hF => J.of hF hH ?_⟩
  refine J.p (PR.assign rfl) rfl ?_
  refine J.nil ?_
  refine EJ.thenN (hK3 ?_)
  refine CJ.seq fun _ hK4 _ => ?_
  refine CJ.seq fun _ hK5 _ => ?_
  refine CJ.region ?_
  refine J.p (PR.move rfl) rfl ?_
  refine J.p (PR.lss rfl rfl) rfl ?_
  refine J.nil ?_
  refine EJ.thenN (hK5 ?_)
  refine CJ.condD rfl (fun h11 => ?_) (fun h11 => ?_)
  ·
    refine CJ.seq fun _ hK6 _ => ?_
    refine CJ.region ?_
    refine J.p (PR.assign rfl) rfl ?_
    refine J.nil ?_
    refine EJ.thenN (hK6 ?_)
    refine CJ.ret ?_
    refine EJ.thenR ?_
    refine EJ.ret1 rfl (Res.tmp rfl) fun w hH => ?_
    replace hH := hH.tail
    first | exact ⟨rfl, hH.below⟩ | exact absurd rfl h11p | exact absurd rfl h11 | (exfalso; omega) | (simp at h11; done)
  ·
    have hsz : ad.length + af.length + tot af ≤ 1048576 := by unfold szv at h11; split at h11 <;> omega
    have hl6 : ∀ i, i < af.length → (fm af i).length ≤ 1048576 := fun i hi => by have := tot_fm hi; omega
    refine CJ.skip ?_
    refine EJ.thenN (hK4 ?_)
    refine CJ.seq fun _ hK7 _ => ?_
    refine CJ.region ?_
    refine J.p (PR.loadAll rfl At.z (by simpa [*] using ag49)) rfl ?_
    refine J.call fn35 rfl rfl fun w hH => (toAlgebra_c had haf (by omega) hl6 hH).mono ?_
    rintro _ w ⟨qdo13, cdo13, qfo13, cfo13, vso13, rfl, hH⟩
    refine ⟨_, rfl, fun a hF => J.of hF hH ?_⟩
    refine J.call fn34 rfl rfl fun w hH => hH.lend .z fun Hl1 hle1 hA1 hB1 hH => hH.lend .z fun Hl2 hle2 hA2 hB2 hH => (sIsAlgebra_c ((own_ints hA1).le hle2) (own_forms haf.wfss hA2) (by omega) (by omega) hl6 hH).mono ?_
    rintro _ w ⟨rfl, hH⟩
    replace hH := hB2 _ _ hH
    replace hH := hB1 _ _ hH
    refine ⟨_, rfl, fun a hF => J.of hF hH ?_⟩
    refine J.p (PR.assign rfl) rfl ?_
    refine J.nil ?_
    refine EJ.thenN (hK7 ?_)
    refine CJ.seq fun _ hK8 _ => ?_
    refine CJ.region ?_
    refine J.p (PR.loadAll rfl (.s (.s .z)) (by simpa [*] using ag49)) rfl ?_
    refine J.call fn35 rfl rfl fun w hH => (toAlgebra_c had haf (by omega) hl6 hH).mono ?_
    rintro _ w ⟨qdo16, cdo16, qfo16, cfo16, vso16, rfl, hH⟩
    refine ⟨_, rfl, fun a hF => J.of hF hH ?_⟩
    refine J.alloc ze41 rfl fun g5 => ?_
    refine J.storeAll rfl rfl (by first | exact bytesC_one _ | exact intsC_one _ | exact Term.c_one _ | simp [Value.oneCell']) (by simpa [*] using sz41) (by simp [*]) At.z ?_
    refine J.nil ?_
    refine EJ.thenN (hK8 ?_)
    refine CJ.seq fun _ hK9 _ => ?_
    refine CJ.region ?_
    refine J.p (PR.loadAll rfl At.z (by simpa [*] using ag41)) rfl ?_
    refine J.call fn36 rfl rfl fun w hH => hH.lend (.s .z) fun Hl1 hle1 hA1 hB1 hH => hH.lend (.s .z) fun Hl2 hle2 hA2 hB2 hH => (IsAlgebra_c ((own_ints hA1).le hle2) (own_forms haf.wfss hA2) (by omega) (by omega) hl6 hH).mono ?_
    rintro _ w ⟨rfl, hH⟩
    replace hH := hB2 _ _ hH
    replace hH := hB1 _ _ hH
    refine ⟨_, rfl, fun a hF => J.of hF hH ?_⟩
    refine J.p (PR.assign rfl) rfl ?_
    refine J.nil ?_
    refine EJ.thenN (hK9 ?_)
    refine CJ.seq fun _ hK10 _ => ?_
    refine CJ.seq fun _ hK11 _ => ?_
    refine CJ.region ?_
    refine J.p (PR.move rfl) rfl ?_
    refine J.p (PR.move rfl) rfl ?_
    refine J.p (PR.neqB u4 rfl rfl) rfl ?_
    refine J.nil ?_
    refine EJ.thenN (hK11 ?_)
    refine CJ.condD rfl (fun hc21 => ?_) (fun hc21 => ?_)
    ·
      refine CJ.seq fun _ hK12 _ => ?_
      refine CJ.region ?_
      refine J.p (PR.assign rfl) rfl ?_
      refine J.nil ?_
      refine EJ.thenN (hK12 ?_)
      refine CJ.ret ?_
      refine EJ.thenR ?_
      refine EJ.ret1 rfl (Res.tmp rfl) fun w hH => ?_
      replace hH := hH.tail
      replace hH := hH.tail
      replace hH := hH.tail
      replace hH := hH.tail
      replace hH := hH.tail
      replace hH := hH.tail
      first | exact ⟨rfl, hH.below⟩ | exact absurd rfl hc21p | exact absurd rfl hc21 | (exfalso; omega) | (simp at hc21; done)
    ·
      refine CJ.skip ?_
      refine EJ.thenN (hK10 ?_)
      refine CJ.seq fun _ hK13 _ => ?_
      refine CJ.seq fun _ hK14 _ => ?_
      refine CJ.openR (Rs := [_, _, _, _, _, _]) 5 [[], [], [1], [0, 1, 2], [0, 1, 2, 3]] [[7], [10], [], [2, 5, 6], []] [[], [], [], [], []] rfl rfl (by kernel_rfl) ?_
      apply GJ.st0 1 rfl
      · intro gh; conv => lhs; simp only [slotsZ, zlAt, vs0, resL, at2, eq_self, Nat.reduceEqDiff, reduceIte, Nat.reduceSub, Nat.reduceAdd, List.cons_append, List.nil_append]
        all_goals rfl
      · intro gh X; conv => lhs; simp only [slotsZ, zlAt, vs0, resL, at2, eq_self, Nat.reduceEqDiff, reduceIte, Nat.reduceSub, Nat.reduceAdd, List.cons_append, List.nil_append]
        all_goals rfl
      · intro gh X; conv => lhs; simp only [slotsZ, zlAt, vs0, resL, at2, eq_self, Nat.reduceEqDiff, reduceIte, Nat.reduceSub, Nat.reduceAdd, List.cons_append, List.nil_append]
        all_goals rfl
      ·
        intro gh X K zq zc zq2 zc2 zb zv hK
        refine J.p (PR.loadAll rfl At.z (by simpa [*] using ag41)) rfl ?_
        refine J.nilK ?_
        exact hK zq zc zq2 zc2 zb zv
      ·
        intro gh gh' h
        rfl
      apply GJ.st0 2 rfl
      · intro gh; conv => lhs; simp only [slotsZ, zlAt, vs0, resL, at2, eq_self, Nat.reduceEqDiff, reduceIte, Nat.reduceSub, Nat.reduceAdd, List.cons_append, List.nil_append]
        all_goals rfl
      · intro gh X; conv => lhs; simp only [slotsZ, zlAt, vs0, resL, at2, eq_self, Nat.reduceEqDiff, reduceIte, Nat.reduceSub, Nat.reduceAdd, List.cons_append, List.nil_append]
        all_goals rfl
      · intro gh X; conv => lhs; simp only [slotsZ, zlAt, vs0, resL, at2, eq_self, Nat.reduceEqDiff, reduceIte, Nat.reduceSub, Nat.reduceAdd, List.cons_append, List.nil_append]
        all_goals rfl
      ·
        intro gh X K zq zc zq2 zc2 zb zv hK
        refine J.p (PR.loadAll rfl At.z (by simpa [*] using ag49)) rfl ?_
        refine J.nilK ?_
        exact hK zq zc zq2 zc2 zb zv
      ·
        intro gh gh' h
        rfl
      apply GJ.st2 3 rfl
      · intro gh; conv => lhs; simp only [slotsZ, zlAt, vs0, resL, at2, eq_self, Nat.reduceEqDiff, reduceIte, Nat.reduceSub, Nat.reduceAdd, List.cons_append, List.nil_append]
        all_goals rfl
      · intro gh X; conv => lhs; simp only [slotsZ, zlAt, vs0, resL, at2, eq_self, Nat.reduceEqDiff, reduceIte, Nat.reduceSub, Nat.reduceAdd, List.cons_append, List.nil_append]
        all_goals rfl
      · intro gh X; conv => lhs; simp only [slotsZ, zlAt, vs0, resL, at2, eq_self, Nat.reduceEqDiff, reduceIte, Nat.reduceSub, Nat.reduceAdd, List.cons_append, List.nil_append]
        all_goals rfl
      ·
        intro gh X K zq zc zq2 zc2 zb zv hK
        refine J.call fn35 rfl rfl fun w hH => (toAlgebra_c had haf (by omega) hl6 hH).mono ?_
        rintro _ w ⟨qdo24, cdo24, qfo24, cfo24, vso24, rfl, hH⟩
        refine ⟨_, rfl, fun a hF => J.of hF hH ?_⟩
        refine J.nilK ?_
        exact hK qdo24 cdo24 qfo24 cfo24 zb vso24
      ·
        intro gh gh' h
        refine ⟨?_, ?_, ?_⟩ <;> rfl
      apply GJ.st0 4 rfl
      · intro gh; conv => lhs; simp only [slotsZ, zlAt, vs0, resL, at2, eq_self, Nat.reduceEqDiff, reduceIte, Nat.reduceSub, Nat.reduceAdd, List.cons_append, List.nil_append]
        all_goals rfl
      · intro gh X; conv => lhs; simp only [slotsZ, zlAt, vs0, resL, at2, eq_self, Nat.reduceEqDiff, reduceIte, Nat.reduceSub, Nat.reduceAdd, List.cons_append, List.nil_append]
        all_goals rfl
      · intro gh X; conv => lhs; simp only [slotsZ, zlAt, vs0, resL, at2, eq_self, Nat.reduceEqDiff, reduceIte, Nat.reduceSub, Nat.reduceAdd, List.cons_append, List.nil_append]
        all_goals rfl
      ·
        intro gh X K zq zc zq2 zc2 zb zv hK
        refine J.call fn30 rfl rfl fun w hH => hH.lend (.s (.s .z)) fun Hl1 hle1 hA1 hB1 hH => hH.lend (.s (.s .z)) fun Hl2 hle2 hA2 hB2 hH => hH.lend .z fun Hl3 hle3 hA3 hB3 hH => hH.lend .z fun Hl4 hle4 hA4 hB4 hH => (eqAlgebra_c ((((own_ints hA1).le hle2).le hle3).le hle4) (((own_forms haf.wfss hA2).le hle3).le hle4) ((own_ints hA3).le hle4) (own_forms haf.wfss hA4) (by omega) (by omega) hl hH).mono ?_
        rintro _ w ⟨rfl, hH⟩
        replace hH := hB4 _ _ hH
        replace hH := hB3 _ _ hH
        replace hH := hB2 _ _ hH
        replace hH := hB1 _ _ hH
        refine ⟨_, rfl, fun a hF => J.of hF hH ?_⟩
        refine EJ.front (.s .z) ?_
        refine EJ.front (.s .z) ?_
        refine EJ.front (.s (.s (.s .z))) ?_
        refine EJ.front (.s (.s (.s .z))) ?_
        refine J.nilK ?_
        exact hK zq zc zq2 zc2 zb zv
      ·
        intro gh gh' h
        first | simp only [h 2 rfl] | rfl
      apply GJ.st0 5 rfl
      · intro gh; conv => lhs; simp only [slotsZ, zlAt, vs0, resL, at2, eq_self, Nat.reduceEqDiff, reduceIte, Nat.reduceSub, Nat.reduceAdd, List.cons_append, List.nil_append]
        all_goals rfl
      · intro gh X; conv => lhs; simp only [slotsZ, zlAt, vs0, resL, at2, eq_self, Nat.reduceEqDiff, reduceIte, Nat.reduceSub, Nat.reduceAdd, List.cons_append, List.nil_append]
        all_goals rfl
      · intro gh X; conv => lhs; simp only [slotsZ, zlAt, vs0, resL, at2, eq_self, Nat.reduceEqDiff, reduceIte, Nat.reduceSub, Nat.reduceAdd, List.cons_append, List.nil_append]
        all_goals rfl
      ·
        intro gh X K zq zc zq2 zc2 zb zv hK
        refine J.p (PR.not rfl) rfl ?_
        refine J.nilK ?_
        exact hK zq zc zq2 zc2 zb zv
      ·
        intro gh gh' h
        first | simp only [h 2 rfl] | rfl
      apply GJ.close [0, 1, 2, 3, 4] [0, 1, 2, 3, 4, 5, 6, 7, 8, 9, 10] foll0 rfl rfl rfl (by rfl)
      · intro gh; conv => lhs; simp only [slotsZ, zlAt, vs0, resL, at2, eq_self, Nat.reduceEqDiff, reduceIte, Nat.reduceSub, Nat.reduceAdd, List.cons_append, List.nil_append]
        all_goals rfl
      · intro gh; conv => lhs; simp only [slotsZ, zlAt, vs0, resL, at2, eq_self, Nat.reduceEqDiff, reduceIte, Nat.reduceSub, Nat.reduceAdd, List.cons_append, List.nil_append]
        all_goals rfl
      intro gh
      generalize (gh 2).c = cdo24
      generalize (gh 2).c2 = cfo24
      generalize (gh 2).q = qdo24
      generalize (gh 2).q2 = qfo24
      generalize (gh 2).vs = vso24
      clear gh
      refine EJ.thenN (hK14 ?_)
      refine CJ.cond rfl (fun hc26 => ?_) (fun hc26 => ?_)
      ·
        refine CJ.seq fun _ hK15 _ => ?_
        refine CJ.region ?_
        refine J.p (PR.assign rfl) rfl ?_
        refine J.nil ?_
        refine EJ.thenN (hK15 ?_)
        refine CJ.ret ?_
        refine EJ.thenR ?_
        refine EJ.ret1 rfl (Res.tmp rfl) fun w hH => ?_
        replace hH := hH.tail
        replace hH := hH.tail
        replace hH := hH.tail
        replace hH := hH.tail
        replace hH := hH.tail
        replace hH := hH.tail
        replace hH := hH.tail
        replace hH := hH.tail
        first | exact ⟨rfl, hH.below⟩ | exact absurd rfl hc26p | exact absurd rfl hc26 | (exfalso; omega) | (simp at hc26; done)
      ·
        refine CJ.skip ?_
        refine EJ.thenN (hK13 ?_)
        refine CJ.seq fun _ hK16 _ => ?_
        refine CJ.region ?_
        refine J.p (PR.assign rfl) rfl ?_
        refine J.nil ?_
        refine EJ.thenN (hK16 ?_)
        refine CJ.ret ?_
        refine EJ.ret1 rfl (Res.tmp rfl) fun w hH => ?_
        replace hH := hH.tail
        replace hH := hH.tail
        replace hH := hH.tail
        replace hH := hH.tail
        replace hH := hH.tail
        replace hH := hH.tail
        replace hH := hH.tail
        replace hH := hH.tail
        first | exact ⟨rfl, hH.below⟩ | exact absurd rfl hc26p | exact absurd rfl hc26 | (exfalso; omega) | (simp at hc26; done)
end Go.Proofs.Ytpojpokldncglaa.G
