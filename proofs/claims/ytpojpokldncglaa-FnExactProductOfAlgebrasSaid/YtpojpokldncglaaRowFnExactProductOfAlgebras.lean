/- The row: the law answers true whatever the input, and the input reads as it did. No condition. -/
import Derived.Test.YtpojpokldncglaaRows
import Derived.Test.YtpojpokldncglaaProg
import Derived.WalkKit
import Derived.KernelRfl
import Derived.JoinedOf
import Derived.Maps.AppendAt
import Derived.Still
import Derived.ProofKit
import Derived.OpenShut
import Derived.StillTail
import Derived.Deep.Upon
import Derived.WalkSpells
import Derived.Maps.Range
import Derived.DeepKeys4
import Derived.ChangeOld
import Derived.Below
import Derived.SizedLaws
import Derived.Test.YtpojpokldncglaaPPrdb
set_option linter.unusedVariables false
set_option linter.unusedSimpArgs false
namespace Go.Proofs.Ytpojpokldncglaa.G
open Go Go.RowKit
namespace Lp
theorem u41 : Try.prog.underlying 41 = some (TypeDesc.struct #[{ name := "Degrees", type := 22, offset := 0, embedded := false, tag := "", pkgPath := "", byteOffset := 0 }, { name := "Images", type := 39, offset := 1, embedded := false, tag := "", pkgPath := "", byteOffset := 24 }]) := by kernel_rfl
theorem u49 : Try.prog.underlying 49 = some (TypeDesc.struct #[{ name := "Degrees", type := 22, offset := 0, embedded := false, tag := "", pkgPath := "", byteOffset := 0 }, { name := "Images", type := 47, offset := 1, embedded := false, tag := "", pkgPath := "", byteOffset := 24 }]) := by kernel_rfl
theorem sz41 : Size Try.prog 41 2 := by unfold Size; kernel_rfl
theorem ze41 : Zero Try.prog 41 [.slice none 0 0, .slice none 0 0] := by unfold Zero; kernel_rfl
theorem ag41 : Agg Try.prog 41 2 := ⟨_, u41, rfl, by kernel_rfl⟩
theorem ag49 : Agg Try.prog 49 2 := ⟨_, u49, rfl, by kernel_rfl⟩
theorem fn30 : Fn Try.prog 30 := ⟨_, Try.func30, by kernel_rfl, rfl⟩
theorem fn31 : Fn Try.prog 31 := ⟨_, Try.func31, by kernel_rfl, rfl⟩
theorem fn32 : Fn Try.prog 32 := ⟨_, Try.func32, by kernel_rfl, rfl⟩
theorem fn33 : Fn Try.prog 33 := ⟨_, Try.func33, by kernel_rfl, rfl⟩
theorem fn35 : Fn Try.prog 35 := ⟨_, Try.func35, by kernel_rfl, rfl⟩
theorem fn62 : Fn Try.prog 62 := ⟨_, Try.func62, by kernel_rfl, rfl⟩
theorem fn63 : Fn Try.prog 63 := ⟨_, Try.func63, by kernel_rfl, rfl⟩
theorem foll0 : Try.prog.follows .mixedOrders = true := by kernel_rfl
end Lp
open Lp
set_option maxHeartbeats 8000000 in
set_option maxRecDepth 10000 in
theorem lawProduct_c {B : World} {H0 H : HP} {L : List SA} {w : World} {qad qaf : Option Addr} {cad caf : Nat} {ad : List Int} {af : List (List Term)} {qbd qbf : Option Addr} {cbd cbf : Nat} {bd : List Int} {bf : List (List Term)}  (had : Ints H qad ad) (haf : Forms H qaf af) (hbd : Ints H qbd bd) (hbf : Forms H qbf bf) (hn : ad.length ≤ 9223372036854775807 ∧ af.length ≤ 9223372036854775807) (hl : ∀ i, i < af.length → (fm af i).length ≤ 9223372036854775807) (bn : bd.length ≤ 9223372036854775807 ∧ bf.length ≤ 9223372036854775807) (bl : ∀ i, i < bf.length → (fm bf i).length ≤ 9223372036854775807) (hH : Hp B H0 H L w) :
    Calls Try.prog 15 [.agg [.slice qad ad.length cad, .slice qaf af.length caf].toArray, .agg [.slice qbd bd.length cbd, .slice qbf bf.length cbf].toArray].toArray w fun e w' => e = .returned (.bool true) ∧ Below B.heap.size B w' := by
  refine CJ.enter Try.func15 rfl 119 rfl rfl [(0, .agg [.slice qad ad.length cad, .slice qaf af.length caf].toArray), (1, .agg [.slice qbd bd.length cbd, .slice qbf bf.length cbf].toArray)] rfl hH ?_
  clear hH
  obtain ⟨f1, f2, f3⟩ := pr_len ad af bd bf
  refine CJ.seq fun _ hK1 _ => ?_
  refine CJ.region ?_
  refine J.box rfl rfl rfl fun g2 => ?_
  refine J.box rfl rfl rfl fun g3 => ?_
  refine J.p (PR.assign rfl) rfl ?_
  refine J.nil ?_
  refine EJ.thenN (hK1 ?_)
  refine CJ.seq fun _ hK2 _ => ?_
  refine CJ.region ?_
  refine J.p (PR.assign rfl) rfl ?_
  refine J.nil ?_
  refine EJ.thenN (hK2 ?_)
  refine CJ.seq fun _ hK3 _ => ?_
  refine CJ.region ?_
  refine J.p (PR.loadAll rfl (.s .z) (by simpa [*] using ag49)) rfl ?_
  refine J.p (PR.move rfl) rfl ?_
  refine J.call fn33 rfl rfl fun w hH => (szAlgebra_c had haf (by omega) hl hH).mono ?_
  rintro _ w ⟨rfl, hH⟩
  refine ⟨_, rfl, fun a hF => J.of hF hH ?_⟩
  refine J.p (PR.assign rfl) rfl ?_
  refine J.nil ?_
  refine EJ.thenN (hK3 ?_)
  refine CJ.seq fun _ hK4 _ => ?_
  refine CJ.seq fun _ hK5 _ => ?_
  refine CJ.region ?_
  refine J.p (PR.move rfl) rfl ?_
  refine J.p (PR.lss rfl rfl) rfl ?_
  refine J.nil ?_
  refine EJ.thenN (hK5 ?_)
  refine CJ.condD rfl (fun h11 => ?_) (fun h11 => ?_)
  ·
    refine CJ.seq fun _ hK6 _ => ?_
    refine CJ.region ?_
    refine J.p (PR.assign rfl) rfl ?_
    refine J.nil ?_
    refine EJ.thenN (hK6 ?_)
    refine CJ.ret ?_
    refine EJ.thenR ?_
    refine EJ.ret1 rfl (Res.tmp rfl) fun w hH => ?_
    replace hH := hH.tail
    replace hH := hH.tail
    first | exact ⟨rfl, hH.below⟩ | exact absurd rfl h11p | exact absurd rfl h11 | (exfalso; omega) | (simp at h11; done)
  ·
    have hsz : ad.length + af.length + tot af ≤ 1048576 := by unfold szv at h11; split at h11 <;> omega
    have hl6 : ∀ i, i < af.length → (fm af i).length ≤ 1048576 := fun i hi => by have := tot_fm hi; omega
    refine CJ.skip ?_
    refine EJ.thenN (hK4 ?_)
    refine CJ.seq fun _ hK7 _ => ?_
    refine CJ.region ?_
    refine J.p (PR.loadAll rfl At.z (by simpa [*] using ag49)) rfl ?_
    refine J.p (PR.move rfl) rfl ?_
    refine J.call fn33 rfl rfl fun w hH => (szAlgebra_c hbd hbf (by unfold szv at h11 ⊢; split at h11 <;> split <;> omega) bl hH).mono ?_
    rintro _ w ⟨rfl, hH⟩
    refine ⟨_, rfl, fun a hF => J.of hF hH ?_⟩
    refine J.p (PR.assign rfl) rfl ?_
    refine J.nil ?_
    refine EJ.thenN (hK7 ?_)
    refine CJ.seq fun _ hK8 _ => ?_
    refine CJ.seq fun _ hK9 _ => ?_
    refine CJ.region ?_
    refine J.p (PR.move rfl) rfl ?_
    refine J.p (PR.lss rfl rfl) rfl ?_
    refine J.nil ?_
    refine EJ.thenN (hK9 ?_)
    refine CJ.condD rfl (fun h21 => ?_) (fun h21 => ?_)
    ·
      refine CJ.seq fun _ hK10 _ => ?_
      refine CJ.region ?_
      refine J.p (PR.assign rfl) rfl ?_
      refine J.nil ?_
      refine EJ.thenN (hK10 ?_)
      refine CJ.ret ?_
      refine EJ.thenR ?_
      refine EJ.ret1 rfl (Res.tmp rfl) fun w hH => ?_
      replace hH := hH.tail
      replace hH := hH.tail
      first | exact ⟨rfl, hH.below⟩ | exact absurd rfl h21p | exact absurd rfl h21 | (exfalso; omega) | (simp at h21; done)
    ·
      have hszb : bd.length + bf.length + tot bf ≤ 1048576 := by unfold szv at h21; split at h21 <;> (try split at h21) <;> omega
      have bl6 : ∀ i, i < bf.length → (fm bf i).length ≤ 1048576 := fun i hi => by have := tot_fm hi; omega
      have f4 : ∀ i, i < (prF ad af bd bf).length → (fm (prF ad af bd bf) i).length ≤ 9223372036854775807 := fun i hi => by have := tot_fm hi; omega
      refine CJ.skip ?_
      refine EJ.thenN (hK8 ?_)
      refine CJ.seq fun _ hK11 _ => ?_
      refine CJ.openR (Rs := [_, _]) 11 [[], [0], [], [0, 1, 2], [0, 1, 2, 3], [0, 1, 2, 3, 4], [0, 1, 2, 3, 4, 5], [0, 1, 2, 3, 4, 5], [], [0, 1, 2, 3, 4, 5, 6, 8], [0, 1, 2, 3, 4, 5, 6, 7, 8, 9]] [[12], [], [11], [], [1, 3], [], [], [], [], [], []] [[], [], [], [], [], [], [], [], [], [8], []] rfl rfl (by kernel_rfl) ?_
      apply GJ.st0 1 rfl
      · intro gh; conv => lhs; simp only [slotsZ, zlAt, vs0, resL, at2, eq_self, Nat.reduceEqDiff, reduceIte, Nat.reduceSub, Nat.reduceAdd, List.cons_append, List.nil_append]
        all_goals rfl
      · intro gh X; conv => lhs; simp only [slotsZ, zlAt, vs0, resL, at2, eq_self, Nat.reduceEqDiff, reduceIte, Nat.reduceSub, Nat.reduceAdd, List.cons_append, List.nil_append]
        all_goals rfl
      · intro gh X; conv => lhs; simp only [slotsZ, zlAt, vs0, resL, at2, eq_self, Nat.reduceEqDiff, reduceIte, Nat.reduceSub, Nat.reduceAdd, List.cons_append, List.nil_append]
        all_goals rfl
      ·
        intro gh X K zq zc zq2 zc2 zb zv hK
        refine J.p (PR.loadAll rfl At.z (by simpa [*] using ag49)) rfl ?_
        refine J.nilK ?_
        exact hK zq zc zq2 zc2 zb zv
      ·
        intro gh gh' h
        rfl
      apply GJ.st2 2 rfl
      · intro gh; conv => lhs; simp only [slotsZ, zlAt, vs0, resL, at2, eq_self, Nat.reduceEqDiff, reduceIte, Nat.reduceSub, Nat.reduceAdd, List.cons_append, List.nil_append]
        all_goals rfl
      · intro gh X; conv => lhs; simp only [slotsZ, zlAt, vs0, resL, at2, eq_self, Nat.reduceEqDiff, reduceIte, Nat.reduceSub, Nat.reduceAdd, List.cons_append, List.nil_append]
        all_goals rfl
      · intro gh X; conv => lhs; simp only [slotsZ, zlAt, vs0, resL, at2, eq_self, Nat.reduceEqDiff, reduceIte, Nat.reduceSub, Nat.reduceAdd, List.cons_append, List.nil_append]
        all_goals rfl
      ·
        intro gh X K zq zc zq2 zc2 zb zv hK
        refine J.call fn35 rfl rfl fun w hH => (toAlgebra_c had haf (by omega) hl6 hH).mono ?_
        rintro _ w ⟨qdo29, cdo29, qfo29, cfo29, vso29, rfl, hH⟩
        refine ⟨_, rfl, fun a hF => J.of hF hH ?_⟩
        refine J.nilK ?_
        exact hK qdo29 cdo29 qfo29 cfo29 zb vso29
      ·
        intro gh gh' h
        refine ⟨?_, ?_, ?_⟩ <;> rfl
      apply GJ.st0 3 rfl
      · intro gh; conv => lhs; simp only [slotsZ, zlAt, vs0, resL, at2, eq_self, Nat.reduceEqDiff, reduceIte, Nat.reduceSub, Nat.reduceAdd, List.cons_append, List.nil_append]
        all_goals rfl
      · intro gh X; conv => lhs; simp only [slotsZ, zlAt, vs0, resL, at2, eq_self, Nat.reduceEqDiff, reduceIte, Nat.reduceSub, Nat.reduceAdd, List.cons_append, List.nil_append]
        all_goals rfl
      · intro gh X; conv => lhs; simp only [slotsZ, zlAt, vs0, resL, at2, eq_self, Nat.reduceEqDiff, reduceIte, Nat.reduceSub, Nat.reduceAdd, List.cons_append, List.nil_append]
        all_goals rfl
      ·
        intro gh X K zq zc zq2 zc2 zb zv hK
        refine J.p (PR.loadAll rfl At.z (by simpa [*] using ag49)) rfl ?_
        refine J.nilK ?_
        exact hK zq zc zq2 zc2 zb zv
      ·
        intro gh gh' h
        rfl
      apply GJ.st2 4 rfl
      · intro gh; conv => lhs; simp only [slotsZ, zlAt, vs0, resL, at2, eq_self, Nat.reduceEqDiff, reduceIte, Nat.reduceSub, Nat.reduceAdd, List.cons_append, List.nil_append]
        all_goals rfl
      · intro gh X; conv => lhs; simp only [slotsZ, zlAt, vs0, resL, at2, eq_self, Nat.reduceEqDiff, reduceIte, Nat.reduceSub, Nat.reduceAdd, List.cons_append, List.nil_append]
        all_goals rfl
      · intro gh X; conv => lhs; simp only [slotsZ, zlAt, vs0, resL, at2, eq_self, Nat.reduceEqDiff, reduceIte, Nat.reduceSub, Nat.reduceAdd, List.cons_append, List.nil_append]
        all_goals rfl
      ·
        intro gh X K zq zc zq2 zc2 zb zv hK
        refine J.call fn35 rfl rfl fun w hH => (toAlgebra_c hbd hbf (by omega) bl6 hH).mono ?_
        rintro _ w ⟨qdo31, cdo31, qfo31, cfo31, vso31, rfl, hH⟩
        refine ⟨_, rfl, fun a hF => J.of hF hH ?_⟩
        refine J.nilK ?_
        exact hK qdo31 cdo31 qfo31 cfo31 zb vso31
      ·
        intro gh gh' h
        refine ⟨?_, ?_, ?_⟩ <;> (first | simp only [h 1 rfl] | rfl)
      apply GJ.st2 5 rfl
      · intro gh; conv => lhs; simp only [slotsZ, zlAt, vs0, resL, at2, eq_self, Nat.reduceEqDiff, reduceIte, Nat.reduceSub, Nat.reduceAdd, List.cons_append, List.nil_append]
        all_goals rfl
      · intro gh X; conv => lhs; simp only [slotsZ, zlAt, vs0, resL, at2, eq_self, Nat.reduceEqDiff, reduceIte, Nat.reduceSub, Nat.reduceAdd, List.cons_append, List.nil_append]
        all_goals rfl
      · intro gh X; conv => lhs; simp only [slotsZ, zlAt, vs0, resL, at2, eq_self, Nat.reduceEqDiff, reduceIte, Nat.reduceSub, Nat.reduceAdd, List.cons_append, List.nil_append]
        all_goals rfl
      ·
        intro gh X K zq zc zq2 zc2 zb zv hK
        refine J.call fn62 rfl rfl fun w hH => hH.lend .z fun Hl1 hle1 hA1 hB1 hH => hH.lend .z fun Hl2 hle2 hA2 hB2 hH => hH.lend .z fun Hl3 hle3 hA3 hB3 hH => hH.lend .z fun Hl4 hle4 hA4 hB4 hH => (sProduct_c ((((own_ints hA1).le hle2).le hle3).le hle4) (((own_forms haf.wfss hA2).le hle3).le hle4) ((own_ints hA3).le hle4) (own_forms hbf.wfss hA4) (by omega) (by omega) hl6 (by omega) (by omega) bl6 hH).mono ?_
        rintro _ w ⟨qdo32, cdo32, qfo32, cfo32, vso32, rfl, hH⟩
        replace hH := hB4 _ _ hH
        replace hH := hB3 _ _ hH
        replace hH := hB2 _ _ hH
        replace hH := hB1 _ _ hH
        refine ⟨_, rfl, fun a hF => J.of hF hH ?_⟩
        refine EJ.front (.s (.s (.s .z))) ?_
        refine EJ.front (.s (.s (.s .z))) ?_
        refine EJ.front (.s (.s (.s .z))) ?_
        refine EJ.front (.s (.s (.s .z))) ?_
        refine EJ.front (.s (.s (.s (.s (.s .z))))) ?_
        refine EJ.front (.s (.s (.s (.s (.s .z))))) ?_
        refine J.nilK ?_
        exact hK qdo32 cdo32 qfo32 cfo32 zb vso32
      ·
        intro gh gh' h
        refine ⟨?_, ?_, ?_⟩ <;> (first | simp only [h 1 rfl, h 3 rfl] | rfl)
      apply GJ.st0 6 rfl
      · intro gh; conv => lhs; simp only [slotsZ, zlAt, vs0, resL, at2, eq_self, Nat.reduceEqDiff, reduceIte, Nat.reduceSub, Nat.reduceAdd, List.cons_append, List.nil_append]
        all_goals rfl
      · intro gh X; conv => lhs; simp only [slotsZ, zlAt, vs0, resL, at2, eq_self, Nat.reduceEqDiff, reduceIte, Nat.reduceSub, Nat.reduceAdd, List.cons_append, List.nil_append]
        all_goals rfl
      · intro gh X; conv => lhs; simp only [slotsZ, zlAt, vs0, resL, at2, eq_self, Nat.reduceEqDiff, reduceIte, Nat.reduceSub, Nat.reduceAdd, List.cons_append, List.nil_append]
        all_goals rfl
      ·
        intro gh X K zq zc zq2 zc2 zb zv hK
        refine J.p (PR.move rfl) rfl ?_
        refine J.nilK ?_
        exact hK zq zc zq2 zc2 zb zv
      ·
        intro gh gh' h
        first | simp only [h 1 rfl, h 3 rfl, h 4 rfl] | rfl
      apply GJ.st0 7 rfl
      · intro gh; conv => lhs; simp only [slotsZ, zlAt, vs0, resL, at2, eq_self, Nat.reduceEqDiff, reduceIte, Nat.reduceSub, Nat.reduceAdd, List.cons_append, List.nil_append]
        all_goals rfl
      · intro gh X; conv => lhs; simp only [slotsZ, zlAt, vs0, resL, at2, eq_self, Nat.reduceEqDiff, reduceIte, Nat.reduceSub, Nat.reduceAdd, List.cons_append, List.nil_append]
        all_goals rfl
      · intro gh X; conv => lhs; simp only [slotsZ, zlAt, vs0, resL, at2, eq_self, Nat.reduceEqDiff, reduceIte, Nat.reduceSub, Nat.reduceAdd, List.cons_append, List.nil_append]
        all_goals rfl
      ·
        intro gh X K zq zc zq2 zc2 zb zv hK
        refine J.p (PR.extract rfl rfl) rfl ?_
        refine J.nilK ?_
        exact hK zq zc zq2 zc2 zb zv
      ·
        intro gh gh' h
        first | simp only [h 1 rfl, h 3 rfl, h 4 rfl] | rfl
      apply GJ.st0 8 rfl
      · intro gh; conv => lhs; simp only [slotsZ, zlAt, vs0, resL, at2, eq_self, Nat.reduceEqDiff, reduceIte, Nat.reduceSub, Nat.reduceAdd, List.cons_append, List.nil_append]
        all_goals rfl
      · intro gh X; conv => lhs; simp only [slotsZ, zlAt, vs0, resL, at2, eq_self, Nat.reduceEqDiff, reduceIte, Nat.reduceSub, Nat.reduceAdd, List.cons_append, List.nil_append]
        all_goals rfl
      · intro gh X; conv => lhs; simp only [slotsZ, zlAt, vs0, resL, at2, eq_self, Nat.reduceEqDiff, reduceIte, Nat.reduceSub, Nat.reduceAdd, List.cons_append, List.nil_append]
        all_goals rfl
      ·
        intro gh X K zq zc zq2 zc2 zb zv hK
        refine J.p (PR.extract rfl rfl) rfl ?_
        refine J.nilK ?_
        exact hK zq zc zq2 zc2 zb zv
      ·
        intro gh gh' h
        first | simp only [h 1 rfl, h 3 rfl, h 4 rfl] | rfl
      apply GJ.st1 9 rfl
      · intro gh; conv => lhs; simp only [slotsZ, zlAt, vs0, resL, at2, eq_self, Nat.reduceEqDiff, reduceIte, Nat.reduceSub, Nat.reduceAdd, List.cons_append, List.nil_append]
        all_goals rfl
      · intro gh X; conv => lhs; simp only [slotsZ, zlAt, vs0, resL, at2, eq_self, Nat.reduceEqDiff, reduceIte, Nat.reduceSub, Nat.reduceAdd, List.cons_append, List.nil_append]
        all_goals rfl
      · intro gh X; conv => lhs; simp only [slotsZ, zlAt, vs0, resL, at2, eq_self, Nat.reduceEqDiff, reduceIte, Nat.reduceSub, Nat.reduceAdd, List.cons_append, List.nil_append]
        all_goals rfl
      ·
        intro gh X K zq zc zq2 zc2 zb zv hK
        refine J.alloc ze41 rfl fun g6 => ?_
        refine J.nilK ?_
        exact hK zq zc zq2 zc2 g6 zv
      ·
        intro gh gh' h
        refine ⟨?_, ?_⟩ <;> rfl
      apply GJ.sn1 10 rfl
      · intro gh; conv => lhs; simp only [slotsZ, zlAt, vs0, resL, at2, eq_self, Nat.reduceEqDiff, reduceIte, Nat.reduceSub, Nat.reduceAdd, List.cons_append, List.nil_append]
        all_goals rfl
      · intro gh X; conv => lhs; simp only [slotsZ, zlAt, vs0, resL, at2, eq_self, Nat.reduceEqDiff, reduceIte, Nat.reduceSub, Nat.reduceAdd, List.cons_append, List.nil_append]
        all_goals rfl
      · intro gh X; conv => lhs; simp only [slotsZ, zlAt, vs0, resL, at2, eq_self, Nat.reduceEqDiff, reduceIte, Nat.reduceSub, Nat.reduceAdd, List.cons_append, List.nil_append]
        all_goals rfl
      ·
        intro gh X K hK
        refine J.storeAll rfl rfl (by first | exact bytesC_one _ | exact intsC_one _ | exact Term.c_one _ | simp [Value.oneCell']) (by simpa [*] using sz41) (by simp [*]) At.z ?_
        refine J.nilK ?_
        exact hK
      ·
        intro gh gh' h
        first | simp only [h 1 rfl, h 3 rfl, h 4 rfl, h 8 rfl] | rfl
      apply GJ.st0 11 rfl
      · intro gh; conv => lhs; simp only [slotsZ, zlAt, vs0, resL, at2, eq_self, Nat.reduceEqDiff, reduceIte, Nat.reduceSub, Nat.reduceAdd, List.cons_append, List.nil_append]
        all_goals rfl
      · intro gh X; conv => lhs; simp only [slotsZ, zlAt, vs0, resL, at2, eq_self, Nat.reduceEqDiff, reduceIte, Nat.reduceSub, Nat.reduceAdd, List.cons_append, List.nil_append]
        all_goals rfl
      · intro gh X; conv => lhs; simp only [slotsZ, zlAt, vs0, resL, at2, eq_self, Nat.reduceEqDiff, reduceIte, Nat.reduceSub, Nat.reduceAdd, List.cons_append, List.nil_append]
        all_goals rfl
      ·
        intro gh X K zq zc zq2 zc2 zb zv hK
        refine J.p (PR.assign rfl) rfl ?_
        refine J.nilK ?_
        exact hK zq zc zq2 zc2 zb zv
      ·
        intro gh gh' h
        first | simp only [h 1 rfl, h 3 rfl, h 4 rfl, h 8 rfl] | rfl
      apply GJ.close [0, 1, 2, 3, 4, 5, 6, 7, 8, 9, 10] [0, 1, 2, 3, 4, 5, 6, 7, 9, 10, 11, 12] foll0 rfl rfl rfl (by rfl)
      · intro gh; conv => lhs; simp only [slotsZ, zlAt, vs0, resL, at2, eq_self, Nat.reduceEqDiff, reduceIte, Nat.reduceSub, Nat.reduceAdd, List.cons_append, List.nil_append]
        all_goals rfl
      · intro gh; conv => lhs; simp only [slotsZ, zlAt, vs0, resL, at2, eq_self, Nat.reduceEqDiff, reduceIte, Nat.reduceSub, Nat.reduceAdd, List.cons_append, List.nil_append]
        all_goals rfl
      intro gh
      generalize (gh 1).c = cdo29
      generalize (gh 1).c2 = cfo29
      generalize (gh 1).q = qdo29
      generalize (gh 1).q2 = qfo29
      generalize (gh 1).vs = vso29
      generalize (gh 3).c = cdo31
      generalize (gh 3).c2 = cfo31
      generalize (gh 3).q = qdo31
      generalize (gh 3).q2 = qfo31
      generalize (gh 3).vs = vso31
      generalize (gh 4).c = cdo32
      generalize (gh 4).c2 = cfo32
      generalize (gh 4).q = qdo32
      generalize (gh 4).q2 = qfo32
      generalize (gh 4).vs = vso32
      generalize (gh 8).b = g6
      clear gh
      refine EJ.thenN (hK11 ?_)
      refine CJ.seq fun _ hK12 _ => ?_
      refine CJ.region ?_
      refine J.p (PR.loadAll rfl (.s (.s (.s (.s (.s (.s (.s (.s .z)))))))) (by simpa [*] using ag49)) rfl ?_
      refine J.call fn35 rfl rfl fun w hH => (toAlgebra_c had haf (by omega) hl6 hH).mono ?_
      rintro _ w ⟨qdo36, cdo36, qfo36, cfo36, vso36, rfl, hH⟩
      refine ⟨_, rfl, fun a hF => J.of hF hH ?_⟩
      refine J.alloc ze41 rfl fun g8 => ?_
      refine J.storeAll rfl rfl (by first | exact bytesC_one _ | exact intsC_one _ | exact Term.c_one _ | simp [Value.oneCell']) (by simpa [*] using sz41) (by simp [*]) At.z ?_
      refine J.nil ?_
      refine EJ.thenN (hK12 ?_)
      refine CJ.seq fun _ hK13 _ => ?_
      refine CJ.region ?_
      refine J.p (PR.loadAll rfl (.s (.s (.s (.s (.s (.s (.s (.s (.s (.s .z)))))))))) (by simpa [*] using ag49)) rfl ?_
      refine J.call fn35 rfl rfl fun w hH => (toAlgebra_c hbd hbf (by omega) bl6 hH).mono ?_
      rintro _ w ⟨qdo38, cdo38, qfo38, cfo38, vso38, rfl, hH⟩
      refine ⟨_, rfl, fun a hF => J.of hF hH ?_⟩
      refine J.alloc ze41 rfl fun g9 => ?_
      refine J.storeAll rfl rfl (by first | exact bytesC_one _ | exact intsC_one _ | exact Term.c_one _ | simp [Value.oneCell']) (by simpa [*] using sz41) (by simp [*]) At.z ?_
      refine J.nil ?_
      refine EJ.thenN (hK13 ?_)
      refine CJ.seq fun _ hK14 _ => ?_
      refine CJ.region ?_
      refine J.p (PR.loadAll rfl (.s (.s (.s .z))) (by simpa [*] using ag41)) rfl ?_
      refine J.p (PR.loadAll rfl At.z (by simpa [*] using ag41)) rfl ?_
      refine J.call fn63 rfl rfl fun w hH => hH.lend (.s (.s (.s (.s .z)))) fun Hl1 hle1 hA1 hB1 hH => hH.lend (.s (.s (.s (.s .z)))) fun Hl2 hle2 hA2 hB2 hH => hH.lend (.s .z) fun Hl3 hle3 hA3 hB3 hH => hH.lend (.s .z) fun Hl4 hle4 hA4 hB4 hH => (Product_c ((((own_ints hA1).le hle2).le hle3).le hle4) (((own_forms haf.wfss hA2).le hle3).le hle4) ((own_ints hA3).le hle4) (own_forms hbf.wfss hA4) (by omega) (by omega) hl6 (by omega) (by omega) bl6 (own_le hA1) (own_le hA3) hH).mono ?_
      rintro _ w ⟨qdo42, cdo42, qfo42, cfo42, vso42, rfl, hH⟩
      replace hH := hB4 _ _ hH
      replace hH := hB3 _ _ hH
      replace hH := hB2 _ _ hH
      replace hH := hB1 _ _ hH
      refine ⟨_, rfl, fun a hF => J.of hF hH ?_⟩
      refine J.p (PR.move rfl) rfl ?_
      refine J.p (PR.extract rfl rfl) rfl ?_
      refine J.p (PR.extract rfl rfl) rfl ?_
      refine J.alloc ze41 rfl fun g10 => ?_
      refine J.storeAll rfl rfl (by first | exact bytesC_one _ | exact intsC_one _ | exact Term.c_one _ | simp [Value.oneCell']) (by simpa [*] using sz41) (by simp [*]) At.z ?_
      refine J.p (PR.assign rfl) rfl ?_
      refine J.nil ?_
      refine EJ.thenN (hK14 ?_)
      refine CJ.seq fun _ hK15 _ => ?_
      refine CJ.seq fun _ hK16 _ => ?_
      refine CJ.region ?_
      refine J.p (PR.loadAll rfl At.z (by simpa [*] using ag41)) rfl ?_
      refine J.p (PR.loadAll rfl (.s (.s (.s (.s (.s (.s (.s (.s (.s (.s (.s (.s (.s (.s (.s .z))))))))))))))) (by simpa [*] using ag41)) rfl ?_
      refine J.call fn30 rfl rfl fun w hH => hH.lend (.s (.s (.s (.s (.s .z))))) fun Hl1 hle1 hA1 hB1 hH => hH.lend (.s (.s (.s (.s (.s .z))))) fun Hl2 hle2 hA2 hB2 hH => hH.lend (.s (.s (.s (.s (.s (.s (.s (.s (.s (.s (.s .z))))))))))) fun Hl3 hle3 hA3 hB3 hH => hH.lend (.s (.s (.s (.s (.s (.s (.s (.s (.s (.s (.s .z))))))))))) fun Hl4 hle4 hA4 hB4 hH => (eqAlgebra_c ((((own_ints hA1).le hle2).le hle3).le hle4) (((own_forms (prF_wf haf.wfss hbf.wfss) hA2).le hle3).le hle4) ((own_ints hA3).le hle4) (own_forms (prF_wf haf.wfss hbf.wfss) hA4) (by omega) (by omega) f4 hH).mono ?_
      rintro _ w ⟨rfl, hH⟩
      replace hH := hB4 _ _ hH
      replace hH := hB3 _ _ hH
      replace hH := hB2 _ _ hH
      replace hH := hB1 _ _ hH
      refine ⟨_, rfl, fun a hF => J.of hF hH ?_⟩
      refine J.p (PR.not rfl) rfl ?_
      refine J.p (PR.move rfl) rfl ?_
      refine J.splitB (jd := 49) rfl (fun hg49 => ?_) (fun hg49 => ?_)
      ·
        try have hg49p := of_decide_eq_true hg49
        refine J.gn rfl rfl rfl hg49 ?_
        refine J.gn rfl rfl rfl hg49 ?_
        refine J.gn rfl rfl rfl hg49 ?_
        refine J.p (PR.pickT rfl hg49 rfl) rfl ?_
        refine J.nil ?_
        refine EJ.thenN (hK16 ?_)
        refine CJ.condT rfl ?_
        refine CJ.seq fun _ hK17 _ => ?_
        refine CJ.region ?_
        refine J.p (PR.assign rfl) rfl ?_
        refine J.nil ?_
        refine EJ.thenN (hK17 ?_)
        refine CJ.ret ?_
        refine EJ.thenR ?_
        refine EJ.ret1 rfl (Res.tmp rfl) fun w hH => ?_
        replace hH := hH.tail
        replace hH := hH.tail
        replace hH := hH.tail
        replace hH := hH.tail
        replace hH := hH.tail
        replace hH := hH.tail
        replace hH := hH.tail
        replace hH := hH.tail
        replace hH := hH.tail
        replace hH := hH.tail
        replace hH := hH.tail
        replace hH := hH.tail
        replace hH := hH.tail
        replace hH := hH.tail
        replace hH := hH.tail
        replace hH := hH.tail
        replace hH := hH.tail
        replace hH := hH.tail
        first | exact ⟨rfl, hH.below⟩ | exact absurd rfl hg49p | exact absurd rfl hg49 | (exfalso; omega) | (simp at hg49; done)
      ·
        try have hg49p := of_decide_eq_false hg49
        refine J.gy (PR.move rfl) rfl rfl rfl hg49 ?_
        refine J.gy (PR.move rfl) rfl rfl rfl hg49 ?_
        refine J.gy (PR.neq rfl rfl) rfl rfl rfl hg49 ?_
        refine J.p (PR.pickF rfl hg49 rfl) rfl ?_
        refine J.nil ?_
        refine EJ.thenN (hK16 ?_)
        refine CJ.condD rfl (fun hc53 => ?_) (fun hc53 => ?_)
        ·
          refine CJ.seq fun _ hK18 _ => ?_
          refine CJ.region ?_
          refine J.p (PR.assign rfl) rfl ?_
          refine J.nil ?_
          refine EJ.thenN (hK18 ?_)
          refine CJ.ret ?_
          refine EJ.thenR ?_
          refine EJ.ret1 rfl (Res.tmp rfl) fun w hH => ?_
          replace hH := hH.tail
          replace hH := hH.tail
          replace hH := hH.tail
          replace hH := hH.tail
          replace hH := hH.tail
          replace hH := hH.tail
          replace hH := hH.tail
          replace hH := hH.tail
          replace hH := hH.tail
          replace hH := hH.tail
          replace hH := hH.tail
          replace hH := hH.tail
          replace hH := hH.tail
          replace hH := hH.tail
          replace hH := hH.tail
          replace hH := hH.tail
          replace hH := hH.tail
          replace hH := hH.tail
          first | exact ⟨rfl, hH.below⟩ | exact absurd rfl hc53p | exact absurd rfl hc53 | (exfalso; omega) | (simp at hc53; done)
        ·
          refine CJ.skip ?_
          refine EJ.thenN (hK15 ?_)
          refine CJ.seq fun _ hK19 _ => ?_
          refine CJ.seq fun _ hK20 _ => ?_
          refine CJ.openR (Rs := [_, _, _, _, _, _, _, _, _, _, _, _, _, _, _, _, _, _]) 5 [[], [], [1], [0, 1, 2], [0, 1, 2, 3]] [[15], [22], [], [2, 10, 11], []] [[], [], [], [], []] rfl rfl (by kernel_rfl) ?_
          apply GJ.st0 1 rfl
          · intro gh; conv => lhs; simp only [slotsZ, zlAt, vs0, resL, at2, eq_self, Nat.reduceEqDiff, reduceIte, Nat.reduceSub, Nat.reduceAdd, List.cons_append, List.nil_append]
            all_goals rfl
          · intro gh X; conv => lhs; simp only [slotsZ, zlAt, vs0, resL, at2, eq_self, Nat.reduceEqDiff, reduceIte, Nat.reduceSub, Nat.reduceAdd, List.cons_append, List.nil_append]
            all_goals rfl
          · intro gh X; conv => lhs; simp only [slotsZ, zlAt, vs0, resL, at2, eq_self, Nat.reduceEqDiff, reduceIte, Nat.reduceSub, Nat.reduceAdd, List.cons_append, List.nil_append]
            all_goals rfl
          ·
            intro gh X K zq zc zq2 zc2 zb zv hK
            refine J.p (PR.loadAll rfl At.z (by simpa [*] using ag41)) rfl ?_
            refine J.nilK ?_
            exact hK zq zc zq2 zc2 zb zv
          ·
            intro gh gh' h
            rfl
          apply GJ.st0 2 rfl
          · intro gh; conv => lhs; simp only [slotsZ, zlAt, vs0, resL, at2, eq_self, Nat.reduceEqDiff, reduceIte, Nat.reduceSub, Nat.reduceAdd, List.cons_append, List.nil_append]
            all_goals rfl
          · intro gh X; conv => lhs; simp only [slotsZ, zlAt, vs0, resL, at2, eq_self, Nat.reduceEqDiff, reduceIte, Nat.reduceSub, Nat.reduceAdd, List.cons_append, List.nil_append]
            all_goals rfl
          · intro gh X; conv => lhs; simp only [slotsZ, zlAt, vs0, resL, at2, eq_self, Nat.reduceEqDiff, reduceIte, Nat.reduceSub, Nat.reduceAdd, List.cons_append, List.nil_append]
            all_goals rfl
          ·
            intro gh X K zq zc zq2 zc2 zb zv hK
            refine J.p (PR.loadAll rfl At.z (by simpa [*] using ag49)) rfl ?_
            refine J.nilK ?_
            exact hK zq zc zq2 zc2 zb zv
          ·
            intro gh gh' h
            rfl
          apply GJ.st2 3 rfl
          · intro gh; conv => lhs; simp only [slotsZ, zlAt, vs0, resL, at2, eq_self, Nat.reduceEqDiff, reduceIte, Nat.reduceSub, Nat.reduceAdd, List.cons_append, List.nil_append]
            all_goals rfl
          · intro gh X; conv => lhs; simp only [slotsZ, zlAt, vs0, resL, at2, eq_self, Nat.reduceEqDiff, reduceIte, Nat.reduceSub, Nat.reduceAdd, List.cons_append, List.nil_append]
            all_goals rfl
          · intro gh X; conv => lhs; simp only [slotsZ, zlAt, vs0, resL, at2, eq_self, Nat.reduceEqDiff, reduceIte, Nat.reduceSub, Nat.reduceAdd, List.cons_append, List.nil_append]
            all_goals rfl
          ·
            intro gh X K zq zc zq2 zc2 zb zv hK
            refine J.call fn35 rfl rfl fun w hH => (toAlgebra_c had haf (by omega) hl6 hH).mono ?_
            rintro _ w ⟨qdo56, cdo56, qfo56, cfo56, vso56, rfl, hH⟩
            refine ⟨_, rfl, fun a hF => J.of hF hH ?_⟩
            refine J.nilK ?_
            exact hK qdo56 cdo56 qfo56 cfo56 zb vso56
          ·
            intro gh gh' h
            refine ⟨?_, ?_, ?_⟩ <;> rfl
          apply GJ.st0 4 rfl
          · intro gh; conv => lhs; simp only [slotsZ, zlAt, vs0, resL, at2, eq_self, Nat.reduceEqDiff, reduceIte, Nat.reduceSub, Nat.reduceAdd, List.cons_append, List.nil_append]
            all_goals rfl
          · intro gh X; conv => lhs; simp only [slotsZ, zlAt, vs0, resL, at2, eq_self, Nat.reduceEqDiff, reduceIte, Nat.reduceSub, Nat.reduceAdd, List.cons_append, List.nil_append]
            all_goals rfl
          · intro gh X; conv => lhs; simp only [slotsZ, zlAt, vs0, resL, at2, eq_self, Nat.reduceEqDiff, reduceIte, Nat.reduceSub, Nat.reduceAdd, List.cons_append, List.nil_append]
            all_goals rfl
          ·
            intro gh X K zq zc zq2 zc2 zb zv hK
            refine J.call fn30 rfl rfl fun w hH => hH.lend (.s (.s .z)) fun Hl1 hle1 hA1 hB1 hH => hH.lend (.s (.s .z)) fun Hl2 hle2 hA2 hB2 hH => hH.lend .z fun Hl3 hle3 hA3 hB3 hH => hH.lend .z fun Hl4 hle4 hA4 hB4 hH => (eqAlgebra_c ((((own_ints hA1).le hle2).le hle3).le hle4) (((own_forms haf.wfss hA2).le hle3).le hle4) ((own_ints hA3).le hle4) (own_forms haf.wfss hA4) (by omega) (by omega) hl hH).mono ?_
            rintro _ w ⟨rfl, hH⟩
            replace hH := hB4 _ _ hH
            replace hH := hB3 _ _ hH
            replace hH := hB2 _ _ hH
            replace hH := hB1 _ _ hH
            refine ⟨_, rfl, fun a hF => J.of hF hH ?_⟩
            refine EJ.front (.s .z) ?_
            refine EJ.front (.s .z) ?_
            refine EJ.front (.s (.s (.s .z))) ?_
            refine EJ.front (.s (.s (.s .z))) ?_
            refine J.nilK ?_
            exact hK zq zc zq2 zc2 zb zv
          ·
            intro gh gh' h
            first | simp only [h 2 rfl] | rfl
          apply GJ.st0 5 rfl
          · intro gh; conv => lhs; simp only [slotsZ, zlAt, vs0, resL, at2, eq_self, Nat.reduceEqDiff, reduceIte, Nat.reduceSub, Nat.reduceAdd, List.cons_append, List.nil_append]
            all_goals rfl
          · intro gh X; conv => lhs; simp only [slotsZ, zlAt, vs0, resL, at2, eq_self, Nat.reduceEqDiff, reduceIte, Nat.reduceSub, Nat.reduceAdd, List.cons_append, List.nil_append]
            all_goals rfl
          · intro gh X; conv => lhs; simp only [slotsZ, zlAt, vs0, resL, at2, eq_self, Nat.reduceEqDiff, reduceIte, Nat.reduceSub, Nat.reduceAdd, List.cons_append, List.nil_append]
            all_goals rfl
          ·
            intro gh X K zq zc zq2 zc2 zb zv hK
            refine J.p (PR.not rfl) rfl ?_
            refine J.nilK ?_
            exact hK zq zc zq2 zc2 zb zv
          ·
            intro gh gh' h
            first | simp only [h 2 rfl] | rfl
          apply GJ.close [0, 1, 2, 3, 4] [0, 1, 2, 3, 4, 5, 6, 7, 8, 9, 10, 11, 12, 13, 14, 15, 16, 17, 18, 19, 20, 21, 22] foll0 rfl rfl rfl (by rfl)
          · intro gh; conv => lhs; simp only [slotsZ, zlAt, vs0, resL, at2, eq_self, Nat.reduceEqDiff, reduceIte, Nat.reduceSub, Nat.reduceAdd, List.cons_append, List.nil_append]
            all_goals rfl
          · intro gh; conv => lhs; simp only [slotsZ, zlAt, vs0, resL, at2, eq_self, Nat.reduceEqDiff, reduceIte, Nat.reduceSub, Nat.reduceAdd, List.cons_append, List.nil_append]
            all_goals rfl
          intro gh
          generalize (gh 2).c = cdo56
          generalize (gh 2).c2 = cfo56
          generalize (gh 2).q = qdo56
          generalize (gh 2).q2 = qfo56
          generalize (gh 2).vs = vso56
          clear gh
          refine EJ.thenN (hK20 ?_)
          refine CJ.cond rfl (fun hc58 => ?_) (fun hc58 => ?_)
          ·
            refine CJ.seq fun _ hK21 _ => ?_
            refine CJ.region ?_
            refine J.p (PR.assign rfl) rfl ?_
            refine J.nil ?_
            refine EJ.thenN (hK21 ?_)
            refine CJ.ret ?_
            refine EJ.thenR ?_
            refine EJ.ret1 rfl (Res.tmp rfl) fun w hH => ?_
            replace hH := hH.tail
            replace hH := hH.tail
            replace hH := hH.tail
            replace hH := hH.tail
            replace hH := hH.tail
            replace hH := hH.tail
            replace hH := hH.tail
            replace hH := hH.tail
            replace hH := hH.tail
            replace hH := hH.tail
            replace hH := hH.tail
            replace hH := hH.tail
            replace hH := hH.tail
            replace hH := hH.tail
            replace hH := hH.tail
            replace hH := hH.tail
            replace hH := hH.tail
            replace hH := hH.tail
            replace hH := hH.tail
            replace hH := hH.tail
            first | exact ⟨rfl, hH.below⟩ | exact absurd rfl hc58p | exact absurd rfl hc58 | (exfalso; omega) | (simp at hc58; done)
          ·
            refine CJ.skip ?_
            refine EJ.thenN (hK19 ?_)
            refine CJ.seq fun _ hK22 _ => ?_
            refine CJ.seq fun _ hK23 _ => ?_
            refine CJ.openR (Rs := [_, _, _, _, _, _, _, _, _, _, _, _, _, _, _, _, _, _, _, _]) 5 [[], [], [1], [0, 1, 2], [0, 1, 2, 3]] [[16], [23], [], [2, 14, 15], []] [[], [], [], [], []] rfl rfl (by kernel_rfl) ?_
            apply GJ.st0 1 rfl
            · intro gh; conv => lhs; simp only [slotsZ, zlAt, vs0, resL, at2, eq_self, Nat.reduceEqDiff, reduceIte, Nat.reduceSub, Nat.reduceAdd, List.cons_append, List.nil_append]
              all_goals rfl
            · intro gh X; conv => lhs; simp only [slotsZ, zlAt, vs0, resL, at2, eq_self, Nat.reduceEqDiff, reduceIte, Nat.reduceSub, Nat.reduceAdd, List.cons_append, List.nil_append]
              all_goals rfl
            · intro gh X; conv => lhs; simp only [slotsZ, zlAt, vs0, resL, at2, eq_self, Nat.reduceEqDiff, reduceIte, Nat.reduceSub, Nat.reduceAdd, List.cons_append, List.nil_append]
              all_goals rfl
            ·
              intro gh X K zq zc zq2 zc2 zb zv hK
              refine J.p (PR.loadAll rfl At.z (by simpa [*] using ag41)) rfl ?_
              refine J.nilK ?_
              exact hK zq zc zq2 zc2 zb zv
            ·
              intro gh gh' h
              rfl
            apply GJ.st0 2 rfl
            · intro gh; conv => lhs; simp only [slotsZ, zlAt, vs0, resL, at2, eq_self, Nat.reduceEqDiff, reduceIte, Nat.reduceSub, Nat.reduceAdd, List.cons_append, List.nil_append]
              all_goals rfl
            · intro gh X; conv => lhs; simp only [slotsZ, zlAt, vs0, resL, at2, eq_self, Nat.reduceEqDiff, reduceIte, Nat.reduceSub, Nat.reduceAdd, List.cons_append, List.nil_append]
              all_goals rfl
            · intro gh X; conv => lhs; simp only [slotsZ, zlAt, vs0, resL, at2, eq_self, Nat.reduceEqDiff, reduceIte, Nat.reduceSub, Nat.reduceAdd, List.cons_append, List.nil_append]
              all_goals rfl
            ·
              intro gh X K zq zc zq2 zc2 zb zv hK
              refine J.p (PR.loadAll rfl At.z (by simpa [*] using ag49)) rfl ?_
              refine J.nilK ?_
              exact hK zq zc zq2 zc2 zb zv
            ·
              intro gh gh' h
              rfl
            apply GJ.st2 3 rfl
            · intro gh; conv => lhs; simp only [slotsZ, zlAt, vs0, resL, at2, eq_self, Nat.reduceEqDiff, reduceIte, Nat.reduceSub, Nat.reduceAdd, List.cons_append, List.nil_append]
              all_goals rfl
            · intro gh X; conv => lhs; simp only [slotsZ, zlAt, vs0, resL, at2, eq_self, Nat.reduceEqDiff, reduceIte, Nat.reduceSub, Nat.reduceAdd, List.cons_append, List.nil_append]
              all_goals rfl
            · intro gh X; conv => lhs; simp only [slotsZ, zlAt, vs0, resL, at2, eq_self, Nat.reduceEqDiff, reduceIte, Nat.reduceSub, Nat.reduceAdd, List.cons_append, List.nil_append]
              all_goals rfl
            ·
              intro gh X K zq zc zq2 zc2 zb zv hK
              refine J.call fn35 rfl rfl fun w hH => (toAlgebra_c hbd hbf (by omega) bl6 hH).mono ?_
              rintro _ w ⟨qdo61, cdo61, qfo61, cfo61, vso61, rfl, hH⟩
              refine ⟨_, rfl, fun a hF => J.of hF hH ?_⟩
              refine J.nilK ?_
              exact hK qdo61 cdo61 qfo61 cfo61 zb vso61
            ·
              intro gh gh' h
              refine ⟨?_, ?_, ?_⟩ <;> rfl
            apply GJ.st0 4 rfl
            · intro gh; conv => lhs; simp only [slotsZ, zlAt, vs0, resL, at2, eq_self, Nat.reduceEqDiff, reduceIte, Nat.reduceSub, Nat.reduceAdd, List.cons_append, List.nil_append]
              all_goals rfl
            · intro gh X; conv => lhs; simp only [slotsZ, zlAt, vs0, resL, at2, eq_self, Nat.reduceEqDiff, reduceIte, Nat.reduceSub, Nat.reduceAdd, List.cons_append, List.nil_append]
              all_goals rfl
            · intro gh X; conv => lhs; simp only [slotsZ, zlAt, vs0, resL, at2, eq_self, Nat.reduceEqDiff, reduceIte, Nat.reduceSub, Nat.reduceAdd, List.cons_append, List.nil_append]
              all_goals rfl
            ·
              intro gh X K zq zc zq2 zc2 zb zv hK
              refine J.call fn30 rfl rfl fun w hH => hH.lend (.s (.s .z)) fun Hl1 hle1 hA1 hB1 hH => hH.lend (.s (.s .z)) fun Hl2 hle2 hA2 hB2 hH => hH.lend .z fun Hl3 hle3 hA3 hB3 hH => hH.lend .z fun Hl4 hle4 hA4 hB4 hH => (eqAlgebra_c ((((own_ints hA1).le hle2).le hle3).le hle4) (((own_forms hbf.wfss hA2).le hle3).le hle4) ((own_ints hA3).le hle4) (own_forms hbf.wfss hA4) (by omega) (by omega) bl hH).mono ?_
              rintro _ w ⟨rfl, hH⟩
              replace hH := hB4 _ _ hH
              replace hH := hB3 _ _ hH
              replace hH := hB2 _ _ hH
              replace hH := hB1 _ _ hH
              refine ⟨_, rfl, fun a hF => J.of hF hH ?_⟩
              refine EJ.front (.s .z) ?_
              refine EJ.front (.s .z) ?_
              refine EJ.front (.s (.s (.s .z))) ?_
              refine EJ.front (.s (.s (.s .z))) ?_
              refine J.nilK ?_
              exact hK zq zc zq2 zc2 zb zv
            ·
              intro gh gh' h
              first | simp only [h 2 rfl] | rfl
            apply GJ.st0 5 rfl
            · intro gh; conv => lhs; simp only [slotsZ, zlAt, vs0, resL, at2, eq_self, Nat.reduceEqDiff, reduceIte, Nat.reduceSub, Nat.reduceAdd, List.cons_append, List.nil_append]
              all_goals rfl
            · intro gh X; conv => lhs; simp only [slotsZ, zlAt, vs0, resL, at2, eq_self, Nat.reduceEqDiff, reduceIte, Nat.reduceSub, Nat.reduceAdd, List.cons_append, List.nil_append]
              all_goals rfl
            · intro gh X; conv => lhs; simp only [slotsZ, zlAt, vs0, resL, at2, eq_self, Nat.reduceEqDiff, reduceIte, Nat.reduceSub, Nat.reduceAdd, List.cons_append, List.nil_append]
              all_goals rfl
            ·
              intro gh X K zq zc zq2 zc2 zb zv hK
              refine J.p (PR.not rfl) rfl ?_
              refine J.nilK ?_
              exact hK zq zc zq2 zc2 zb zv
            ·
              intro gh gh' h
              first | simp only [h 2 rfl] | rfl
            apply GJ.close [0, 1, 2, 3, 4] [0, 1, 2, 3, 4, 5, 6, 7, 8, 9, 10, 11, 12, 13, 14, 15, 16, 17, 18, 19, 20, 21, 22, 23, 24] foll0 rfl rfl rfl (by rfl)
            · intro gh; conv => lhs; simp only [slotsZ, zlAt, vs0, resL, at2, eq_self, Nat.reduceEqDiff, reduceIte, Nat.reduceSub, Nat.reduceAdd, List.cons_append, List.nil_append]
              all_goals rfl
            · intro gh; conv => lhs; simp only [slotsZ, zlAt, vs0, resL, at2, eq_self, Nat.reduceEqDiff, reduceIte, Nat.reduceSub, Nat.reduceAdd, List.cons_append, List.nil_append]
              all_goals rfl
            intro gh
            generalize (gh 2).c = cdo61
            generalize (gh 2).c2 = cfo61
            generalize (gh 2).q = qdo61
            generalize (gh 2).q2 = qfo61
            generalize (gh 2).vs = vso61
            clear gh
            refine EJ.thenN (hK23 ?_)
            refine CJ.cond rfl (fun hc63 => ?_) (fun hc63 => ?_)
            ·
              refine CJ.seq fun _ hK24 _ => ?_
              refine CJ.region ?_
              refine J.p (PR.assign rfl) rfl ?_
              refine J.nil ?_
              refine EJ.thenN (hK24 ?_)
              refine CJ.ret ?_
              refine EJ.thenR ?_
              refine EJ.ret1 rfl (Res.tmp rfl) fun w hH => ?_
              replace hH := hH.tail
              replace hH := hH.tail
              replace hH := hH.tail
              replace hH := hH.tail
              replace hH := hH.tail
              replace hH := hH.tail
              replace hH := hH.tail
              replace hH := hH.tail
              replace hH := hH.tail
              replace hH := hH.tail
              replace hH := hH.tail
              replace hH := hH.tail
              replace hH := hH.tail
              replace hH := hH.tail
              replace hH := hH.tail
              replace hH := hH.tail
              replace hH := hH.tail
              replace hH := hH.tail
              replace hH := hH.tail
              replace hH := hH.tail
              replace hH := hH.tail
              replace hH := hH.tail
              first | exact ⟨rfl, hH.below⟩ | exact absurd rfl hc63p | exact absurd rfl hc63 | (exfalso; omega) | (simp at hc63; done)
            ·
              refine CJ.skip ?_
              refine EJ.thenN (hK22 ?_)
              refine CJ.seq fun _ hK25 _ => ?_
              refine CJ.region ?_
              refine J.p (PR.assign rfl) rfl ?_
              refine J.nil ?_
              refine EJ.thenN (hK25 ?_)
              refine CJ.seq fun _ hK26 _ => ?_
              refine CJ.region ?_
              refine J.p (PR.loadAll rfl (.s (.s (.s (.s (.s (.s (.s (.s (.s (.s (.s (.s (.s (.s .z)))))))))))))) (by simpa [*] using ag41)) rfl ?_
              refine J.p (PR.move rfl) rfl ?_
              refine J.call fn31 rfl rfl fun w hH => (markAlgebra_c (by omega) (by omega) ((hH.front (.s (.s (.s (.s (.s (.s (.s (.s (.s (.s .z))))))))))).front (.s (.s (.s (.s (.s (.s (.s (.s (.s (.s .z)))))))))))).mono ?_
              rintro _ w ⟨rfl, hH⟩
              refine ⟨_, rfl, fun a hF => J.of hF hH ?_⟩
              refine J.p (PR.assign rfl) rfl ?_
              refine J.nil ?_
              refine EJ.thenN (hK26 ?_)
              refine CJ.seq fun _ hK27 _ => ?_
              refine CJ.region ?_
              refine J.p (PR.loadAll rfl (.s (.s (.s (.s (.s (.s (.s (.s (.s (.s (.s (.s (.s .z))))))))))))) (by simpa [*] using ag41)) rfl ?_
              refine J.p (PR.move rfl) rfl ?_
              refine J.call fn31 rfl rfl fun w hH => (markAlgebra_c (by omega) (by omega) ((hH.front (.s (.s (.s (.s (.s (.s (.s (.s (.s (.s (.s (.s .z))))))))))))).front (.s (.s (.s (.s (.s (.s (.s (.s (.s (.s (.s (.s .z)))))))))))))).mono ?_
              rintro _ w ⟨rfl, hH⟩
              refine ⟨_, rfl, fun a hF => J.of hF hH ?_⟩
              refine J.p (PR.assign rfl) rfl ?_
              refine J.nil ?_
              refine EJ.thenN (hK27 ?_)
              refine CJ.seq fun _ hK28 _ => ?_
              refine CJ.seq fun _ hK29 _ => ?_
              refine CJ.region ?_
              refine J.p (PR.move rfl) rfl ?_
              refine J.p (PR.lss rfl rfl) rfl ?_
              refine J.p (PR.move rfl) rfl ?_
              refine J.splitB (jd := 72) rfl (fun hg72 => ?_) (fun hg72 => ?_)
              ·
                try have hg72p := of_decide_eq_true hg72
                refine J.gn rfl rfl rfl hg72 ?_
                refine J.gn rfl rfl rfl hg72 ?_
                refine J.gn rfl rfl rfl hg72 ?_
                refine J.gn rfl rfl rfl hg72 ?_
                refine J.p (PR.pickT rfl hg72 rfl) rfl ?_
                refine J.p (PR.move rfl) rfl ?_
                refine J.gn rfl rfl rfl rfl ?_
                refine J.gn rfl rfl rfl rfl ?_
                refine J.gn rfl rfl rfl rfl ?_
                refine J.p (PR.pickT rfl rfl rfl) rfl ?_
                refine J.nil ?_
                refine EJ.thenN (hK29 ?_)
                refine CJ.condT rfl ?_
                refine CJ.seq fun _ hK30 _ => ?_
                refine CJ.region ?_
                refine J.p (PR.assign rfl) rfl ?_
                refine J.nil ?_
                refine EJ.thenN (hK30 ?_)
                refine CJ.ret ?_
                refine EJ.thenR ?_
                refine EJ.ret1 rfl (Res.tmp rfl) fun w hH => ?_
                replace hH := hH.tail
                replace hH := hH.tail
                replace hH := hH.tail
                replace hH := hH.tail
                replace hH := hH.tail
                replace hH := hH.tail
                replace hH := hH.tail
                replace hH := hH.tail
                replace hH := hH.tail
                replace hH := hH.tail
                replace hH := hH.tail
                replace hH := hH.tail
                replace hH := hH.tail
                replace hH := hH.tail
                replace hH := hH.tail
                replace hH := hH.tail
                replace hH := hH.tail
                replace hH := hH.tail
                replace hH := hH.tail
                replace hH := hH.tail
                replace hH := hH.tail
                replace hH := hH.tail
                first | exact ⟨rfl, hH.below⟩ | exact absurd rfl hg72p | exact absurd rfl hg72 | (exfalso; omega) | (simp at hg72; done)
              ·
                try have hg72p := of_decide_eq_false hg72
                refine J.gy (PR.loadAll rfl (.s (.s (.s (.s (.s (.s (.s (.s (.s (.s (.s (.s .z)))))))))))) (by simpa [*] using ag41)) rfl rfl rfl hg72 ?_
                refine J.gy (PR.loadAll rfl (.s (.s (.s (.s (.s (.s (.s (.s (.s (.s (.s (.s (.s (.s (.s (.s (.s (.s (.s .z))))))))))))))))))) (by simpa [*] using ag41)) rfl rfl rfl hg72 ?_
                refine J.gcall fn30 rfl rfl hg72 rfl rfl fun w hH => hH.lend (.s (.s (.s (.s (.s (.s (.s (.s .z)))))))) fun Hl1 hle1 hA1 hB1 hH => hH.lend (.s (.s (.s (.s (.s (.s (.s (.s .z)))))))) fun Hl2 hle2 hA2 hB2 hH => hH.lend (.s (.s (.s (.s (.s (.s (.s (.s .z)))))))) fun Hl3 hle3 hA3 hB3 hH => hH.lend (.s (.s (.s (.s (.s (.s (.s (.s .z)))))))) fun Hl4 hle4 hA4 hB4 hH => (eqAlgebra_c ((((own_ints hA1).le hle2).le hle3).le hle4) (((own_forms (prF_wf haf.wfss hbf.wfss) hA2).le hle3).le hle4) ((own_ints hA3).le hle4) (own_forms (prF_wf haf.wfss hbf.wfss) hA4) (by omega) (by omega) f4 hH).mono ?_
                rintro _ w ⟨rfl, hH⟩
                replace hH := hB4 _ _ hH
                replace hH := hB3 _ _ hH
                replace hH := hB2 _ _ hH
                replace hH := hB1 _ _ hH
                refine ⟨_, rfl, fun a hF => J.of hF hH ?_⟩
                refine J.gy (PR.not rfl) rfl rfl rfl hg72 ?_
                refine J.p (PR.pickF rfl hg72 rfl) rfl ?_
                refine J.p (PR.move rfl) rfl ?_
                refine J.splitB (jd := 78) rfl (fun hg78 => ?_) (fun hg78 => ?_)
                ·
                  try have hg78p := of_decide_eq_true hg78
                  refine J.gn rfl rfl rfl hg78 ?_
                  refine J.gn rfl rfl rfl hg78 ?_
                  refine J.gn rfl rfl rfl hg78 ?_
                  refine J.p (PR.pickT rfl hg78 rfl) rfl ?_
                  refine J.nil ?_
                  refine EJ.thenN (hK29 ?_)
                  refine CJ.condT rfl ?_
                  refine CJ.seq fun _ hK31 _ => ?_
                  refine CJ.region ?_
                  refine J.p (PR.assign rfl) rfl ?_
                  refine J.nil ?_
                  refine EJ.thenN (hK31 ?_)
                  refine CJ.ret ?_
                  refine EJ.thenR ?_
                  refine EJ.ret1 rfl (Res.tmp rfl) fun w hH => ?_
                  replace hH := hH.tail
                  replace hH := hH.tail
                  replace hH := hH.tail
                  replace hH := hH.tail
                  replace hH := hH.tail
                  replace hH := hH.tail
                  replace hH := hH.tail
                  replace hH := hH.tail
                  replace hH := hH.tail
                  replace hH := hH.tail
                  replace hH := hH.tail
                  replace hH := hH.tail
                  replace hH := hH.tail
                  replace hH := hH.tail
                  replace hH := hH.tail
                  replace hH := hH.tail
                  replace hH := hH.tail
                  replace hH := hH.tail
                  replace hH := hH.tail
                  replace hH := hH.tail
                  replace hH := hH.tail
                  replace hH := hH.tail
                  first | exact ⟨rfl, hH.below⟩ | exact absurd rfl hg78p | exact absurd rfl hg78 | (exfalso; omega) | (simp at hg78; done)
                ·
                  try have hg78p := of_decide_eq_false hg78
                  refine J.gy (PR.move rfl) rfl rfl rfl hg78 ?_
                  refine J.gy (PR.move rfl) rfl rfl rfl hg78 ?_
                  refine J.gy (PR.neq rfl rfl) rfl rfl rfl hg78 ?_
                  refine J.p (PR.pickF rfl hg78 rfl) rfl ?_
                  refine J.nil ?_
                  refine EJ.thenN (hK29 ?_)
                  refine CJ.condD rfl (fun hc82 => ?_) (fun hc82 => ?_)
                  ·
                    refine CJ.seq fun _ hK32 _ => ?_
                    refine CJ.region ?_
                    refine J.p (PR.assign rfl) rfl ?_
                    refine J.nil ?_
                    refine EJ.thenN (hK32 ?_)
                    refine CJ.ret ?_
                    refine EJ.thenR ?_
                    refine EJ.ret1 rfl (Res.tmp rfl) fun w hH => ?_
                    replace hH := hH.tail
                    replace hH := hH.tail
                    replace hH := hH.tail
                    replace hH := hH.tail
                    replace hH := hH.tail
                    replace hH := hH.tail
                    replace hH := hH.tail
                    replace hH := hH.tail
                    replace hH := hH.tail
                    replace hH := hH.tail
                    replace hH := hH.tail
                    replace hH := hH.tail
                    replace hH := hH.tail
                    replace hH := hH.tail
                    replace hH := hH.tail
                    replace hH := hH.tail
                    replace hH := hH.tail
                    replace hH := hH.tail
                    replace hH := hH.tail
                    replace hH := hH.tail
                    replace hH := hH.tail
                    replace hH := hH.tail
                    first | exact ⟨rfl, hH.below⟩ | exact absurd rfl hc82p | exact absurd rfl hc82 | (exfalso; omega) | (simp at hc82; done)
                  ·
                    refine CJ.skip ?_
                    refine EJ.thenN (hK28 ?_)
                    refine CJ.seq fun _ hK33 _ => ?_
                    refine CJ.region ?_
                    refine J.p (PR.assign rfl) rfl ?_
                    refine J.nil ?_
                    refine EJ.thenN (hK33 ?_)
                    refine CJ.seq fun _ hK34 _ => ?_
                    refine CJ.region ?_
                    refine J.p (PR.loadAll rfl (.s (.s (.s (.s (.s (.s (.s (.s (.s (.s (.s (.s .z)))))))))))) (by simpa [*] using ag41)) rfl ?_
                    refine J.p (PR.move rfl) rfl ?_
                    refine J.call fn31 rfl rfl fun w hH => (markAlgebra_c (by omega) (by omega) ((hH.front (.s .z)).front (.s .z))).mono ?_
                    rintro _ w ⟨rfl, hH⟩
                    refine ⟨_, rfl, fun a hF => J.of hF hH ?_⟩
                    refine J.p (PR.assign rfl) rfl ?_
                    refine J.nil ?_
                    refine EJ.thenN (hK34 ?_)
                    refine CJ.seq fun _ hK35 _ => ?_
                    refine CJ.region ?_
                    refine J.p (PR.assign rfl) rfl ?_
                    refine J.nil ?_
                    refine EJ.thenN (hK35 ?_)
                    refine CJ.seq fun _ hK36 _ => ?_
                    refine CJ.region ?_
                    refine J.p (PR.loadAll rfl (.s (.s (.s (.s (.s (.s (.s (.s (.s (.s (.s (.s .z)))))))))))) (by simpa [*] using ag41)) rfl ?_
                    refine J.p (PR.move rfl) rfl ?_
                    refine J.call fn32 rfl rfl fun w hH => hH.lend .z fun Hl1 hle1 hA1 hB1 hH => hH.lend .z fun Hl2 hle2 hA2 hB2 hH => (heldAlgebra_c ((own_mints hA1).le hle2) (own_mforms (by omega) hA2) (by omega) (by omega) hH).mono ?_
                    rintro _ w ⟨rfl, hH⟩
                    replace hH := hB2 _ _ hH
                    replace hH := hB1 _ _ hH
                    refine ⟨_, rfl, fun a hF => J.of hF hH ?_⟩
                    refine J.p (PR.assign rfl) rfl ?_
                    refine J.nil ?_
                    refine EJ.thenN (hK36 ?_)
                    refine CJ.seq fun _ hK37 _ => ?_
                    refine CJ.seq fun _ hK38 _ => ?_
                    refine CJ.region ?_
                    refine J.p (PR.move rfl) rfl ?_
                    refine J.p (PR.lss rfl rfl) rfl ?_
                    refine J.nil ?_
                    refine EJ.thenN (hK38 ?_)
                    refine CJ.condD rfl (fun hc90 => ?_) (fun hc90 => ?_)
                    ·
                      refine CJ.seq fun _ hK39 _ => ?_
                      refine CJ.region ?_
                      refine J.p (PR.assign rfl) rfl ?_
                      refine J.nil ?_
                      refine EJ.thenN (hK39 ?_)
                      refine CJ.ret ?_
                      refine EJ.thenR ?_
                      refine EJ.ret1 rfl (Res.tmp rfl) fun w hH => ?_
                      replace hH := hH.tail
                      replace hH := hH.tail
                      replace hH := hH.tail
                      replace hH := hH.tail
                      replace hH := hH.tail
                      replace hH := hH.tail
                      replace hH := hH.tail
                      replace hH := hH.tail
                      replace hH := hH.tail
                      replace hH := hH.tail
                      replace hH := hH.tail
                      replace hH := hH.tail
                      replace hH := hH.tail
                      replace hH := hH.tail
                      replace hH := hH.tail
                      replace hH := hH.tail
                      replace hH := hH.tail
                      replace hH := hH.tail
                      replace hH := hH.tail
                      replace hH := hH.tail
                      replace hH := hH.tail
                      replace hH := hH.tail
                      first | exact ⟨rfl, hH.below⟩ | exact absurd rfl hc90p | exact absurd rfl hc90 | (exfalso; omega) | (simp at hc90; done)
                    ·
                      refine CJ.skip ?_
                      refine EJ.thenN (hK37 ?_)
                      refine CJ.seq fun _ hK40 _ => ?_
                      refine CJ.seq fun _ hK41 _ => ?_
                      refine CJ.region ?_
                      refine J.p (PR.move rfl) rfl ?_
                      refine J.p (PR.move rfl) rfl ?_
                      refine J.p (PR.neq rfl rfl) rfl ?_
                      refine J.nil ?_
                      refine EJ.thenN (hK41 ?_)
                      refine CJ.condD rfl (fun hc93 => ?_) (fun hc93 => ?_)
                      ·
                        refine CJ.seq fun _ hK42 _ => ?_
                        refine CJ.region ?_
                        refine J.p (PR.assign rfl) rfl ?_
                        refine J.nil ?_
                        refine EJ.thenN (hK42 ?_)
                        refine CJ.ret ?_
                        refine EJ.thenR ?_
                        refine EJ.ret1 rfl (Res.tmp rfl) fun w hH => ?_
                        replace hH := hH.tail
                        replace hH := hH.tail
                        replace hH := hH.tail
                        replace hH := hH.tail
                        replace hH := hH.tail
                        replace hH := hH.tail
                        replace hH := hH.tail
                        replace hH := hH.tail
                        replace hH := hH.tail
                        replace hH := hH.tail
                        replace hH := hH.tail
                        replace hH := hH.tail
                        replace hH := hH.tail
                        replace hH := hH.tail
                        replace hH := hH.tail
                        replace hH := hH.tail
                        replace hH := hH.tail
                        replace hH := hH.tail
                        replace hH := hH.tail
                        replace hH := hH.tail
                        replace hH := hH.tail
                        replace hH := hH.tail
                        first | exact ⟨rfl, hH.below⟩ | exact absurd rfl hc93p | exact absurd rfl hc93 | (exfalso; omega) | (simp at hc93; done)
                      ·
                        refine CJ.skip ?_
                        refine EJ.thenN (hK40 ?_)
                        refine CJ.seq fun _ hK43 _ => ?_
                        refine CJ.openR (Rs := [_, _, _, _, _, _, _, _, _, _, _, _, _, _, _, _, _, _, _, _, _, _]) 11 [[], [0], [], [0, 1, 2], [0, 1, 2, 3], [0, 1, 2, 3, 4], [0, 1, 2, 3, 4, 5], [0, 1, 2, 3, 4, 5], [], [0, 1, 2, 3, 4, 5, 6, 8], [0, 1, 2, 3, 4, 5, 6, 7, 8, 9]] [[32], [], [31], [], [1, 3], [], [], [], [], [], []] [[], [], [], [], [], [], [], [], [], [8], []] rfl rfl (by kernel_rfl) ?_
                        apply GJ.st0 1 rfl
                        · intro gh; conv => lhs; simp only [slotsZ, zlAt, vs0, resL, at2, eq_self, Nat.reduceEqDiff, reduceIte, Nat.reduceSub, Nat.reduceAdd, List.cons_append, List.nil_append]
                          all_goals rfl
                        · intro gh X; conv => lhs; simp only [slotsZ, zlAt, vs0, resL, at2, eq_self, Nat.reduceEqDiff, reduceIte, Nat.reduceSub, Nat.reduceAdd, List.cons_append, List.nil_append]
                          all_goals rfl
                        · intro gh X; conv => lhs; simp only [slotsZ, zlAt, vs0, resL, at2, eq_self, Nat.reduceEqDiff, reduceIte, Nat.reduceSub, Nat.reduceAdd, List.cons_append, List.nil_append]
                          all_goals rfl
                        ·
                          intro gh X K zq zc zq2 zc2 zb zv hK
                          refine J.p (PR.loadAll rfl At.z (by simpa [*] using ag49)) rfl ?_
                          refine J.nilK ?_
                          exact hK zq zc zq2 zc2 zb zv
                        ·
                          intro gh gh' h
                          rfl
                        apply GJ.st2 2 rfl
                        · intro gh; conv => lhs; simp only [slotsZ, zlAt, vs0, resL, at2, eq_self, Nat.reduceEqDiff, reduceIte, Nat.reduceSub, Nat.reduceAdd, List.cons_append, List.nil_append]
                          all_goals rfl
                        · intro gh X; conv => lhs; simp only [slotsZ, zlAt, vs0, resL, at2, eq_self, Nat.reduceEqDiff, reduceIte, Nat.reduceSub, Nat.reduceAdd, List.cons_append, List.nil_append]
                          all_goals rfl
                        · intro gh X; conv => lhs; simp only [slotsZ, zlAt, vs0, resL, at2, eq_self, Nat.reduceEqDiff, reduceIte, Nat.reduceSub, Nat.reduceAdd, List.cons_append, List.nil_append]
                          all_goals rfl
                        ·
                          intro gh X K zq zc zq2 zc2 zb zv hK
                          refine J.call fn35 rfl rfl fun w hH => (toAlgebra_c had haf (by omega) hl6 hH).mono ?_
                          rintro _ w ⟨qdo96, cdo96, qfo96, cfo96, vso96, rfl, hH⟩
                          refine ⟨_, rfl, fun a hF => J.of hF hH ?_⟩
                          refine J.nilK ?_
                          exact hK qdo96 cdo96 qfo96 cfo96 zb vso96
                        ·
                          intro gh gh' h
                          refine ⟨?_, ?_, ?_⟩ <;> rfl
                        apply GJ.st0 3 rfl
                        · intro gh; conv => lhs; simp only [slotsZ, zlAt, vs0, resL, at2, eq_self, Nat.reduceEqDiff, reduceIte, Nat.reduceSub, Nat.reduceAdd, List.cons_append, List.nil_append]
                          all_goals rfl
                        · intro gh X; conv => lhs; simp only [slotsZ, zlAt, vs0, resL, at2, eq_self, Nat.reduceEqDiff, reduceIte, Nat.reduceSub, Nat.reduceAdd, List.cons_append, List.nil_append]
                          all_goals rfl
                        · intro gh X; conv => lhs; simp only [slotsZ, zlAt, vs0, resL, at2, eq_self, Nat.reduceEqDiff, reduceIte, Nat.reduceSub, Nat.reduceAdd, List.cons_append, List.nil_append]
                          all_goals rfl
                        ·
                          intro gh X K zq zc zq2 zc2 zb zv hK
                          refine J.p (PR.loadAll rfl At.z (by simpa [*] using ag49)) rfl ?_
                          refine J.nilK ?_
                          exact hK zq zc zq2 zc2 zb zv
                        ·
                          intro gh gh' h
                          rfl
                        apply GJ.st2 4 rfl
                        · intro gh; conv => lhs; simp only [slotsZ, zlAt, vs0, resL, at2, eq_self, Nat.reduceEqDiff, reduceIte, Nat.reduceSub, Nat.reduceAdd, List.cons_append, List.nil_append]
                          all_goals rfl
                        · intro gh X; conv => lhs; simp only [slotsZ, zlAt, vs0, resL, at2, eq_self, Nat.reduceEqDiff, reduceIte, Nat.reduceSub, Nat.reduceAdd, List.cons_append, List.nil_append]
                          all_goals rfl
                        · intro gh X; conv => lhs; simp only [slotsZ, zlAt, vs0, resL, at2, eq_self, Nat.reduceEqDiff, reduceIte, Nat.reduceSub, Nat.reduceAdd, List.cons_append, List.nil_append]
                          all_goals rfl
                        ·
                          intro gh X K zq zc zq2 zc2 zb zv hK
                          refine J.call fn35 rfl rfl fun w hH => (toAlgebra_c hbd hbf (by omega) bl6 hH).mono ?_
                          rintro _ w ⟨qdo98, cdo98, qfo98, cfo98, vso98, rfl, hH⟩
                          refine ⟨_, rfl, fun a hF => J.of hF hH ?_⟩
                          refine J.nilK ?_
                          exact hK qdo98 cdo98 qfo98 cfo98 zb vso98
                        ·
                          intro gh gh' h
                          refine ⟨?_, ?_, ?_⟩ <;> (first | simp only [h 1 rfl] | rfl)
                        apply GJ.st2 5 rfl
                        · intro gh; conv => lhs; simp only [slotsZ, zlAt, vs0, resL, at2, eq_self, Nat.reduceEqDiff, reduceIte, Nat.reduceSub, Nat.reduceAdd, List.cons_append, List.nil_append]
                          all_goals rfl
                        · intro gh X; conv => lhs; simp only [slotsZ, zlAt, vs0, resL, at2, eq_self, Nat.reduceEqDiff, reduceIte, Nat.reduceSub, Nat.reduceAdd, List.cons_append, List.nil_append]
                          all_goals rfl
                        · intro gh X; conv => lhs; simp only [slotsZ, zlAt, vs0, resL, at2, eq_self, Nat.reduceEqDiff, reduceIte, Nat.reduceSub, Nat.reduceAdd, List.cons_append, List.nil_append]
                          all_goals rfl
                        ·
                          intro gh X K zq zc zq2 zc2 zb zv hK
                          refine J.call fn63 rfl rfl fun w hH => hH.lend .z fun Hl1 hle1 hA1 hB1 hH => hH.lend .z fun Hl2 hle2 hA2 hB2 hH => hH.lend .z fun Hl3 hle3 hA3 hB3 hH => hH.lend .z fun Hl4 hle4 hA4 hB4 hH => (Product_c ((((own_ints hA1).le hle2).le hle3).le hle4) (((own_forms haf.wfss hA2).le hle3).le hle4) ((own_ints hA3).le hle4) (own_forms hbf.wfss hA4) (by omega) (by omega) hl6 (by omega) (by omega) bl6 (own_le hA1) (own_le hA3) hH).mono ?_
                          rintro _ w ⟨qdo99, cdo99, qfo99, cfo99, vso99, rfl, hH⟩
                          replace hH := hB4 _ _ hH
                          replace hH := hB3 _ _ hH
                          replace hH := hB2 _ _ hH
                          replace hH := hB1 _ _ hH
                          refine ⟨_, rfl, fun a hF => J.of hF hH ?_⟩
                          refine EJ.front (.s (.s (.s .z))) ?_
                          refine EJ.front (.s (.s (.s .z))) ?_
                          refine EJ.front (.s (.s (.s .z))) ?_
                          refine EJ.front (.s (.s (.s .z))) ?_
                          refine EJ.front (.s (.s (.s (.s (.s .z))))) ?_
                          refine EJ.front (.s (.s (.s (.s (.s .z))))) ?_
                          refine J.nilK ?_
                          exact hK qdo99 cdo99 qfo99 cfo99 zb vso99
                        ·
                          intro gh gh' h
                          refine ⟨?_, ?_, ?_⟩ <;> (first | simp only [h 1 rfl, h 3 rfl] | rfl)
                        apply GJ.st0 6 rfl
                        · intro gh; conv => lhs; simp only [slotsZ, zlAt, vs0, resL, at2, eq_self, Nat.reduceEqDiff, reduceIte, Nat.reduceSub, Nat.reduceAdd, List.cons_append, List.nil_append]
                          all_goals rfl
                        · intro gh X; conv => lhs; simp only [slotsZ, zlAt, vs0, resL, at2, eq_self, Nat.reduceEqDiff, reduceIte, Nat.reduceSub, Nat.reduceAdd, List.cons_append, List.nil_append]
                          all_goals rfl
                        · intro gh X; conv => lhs; simp only [slotsZ, zlAt, vs0, resL, at2, eq_self, Nat.reduceEqDiff, reduceIte, Nat.reduceSub, Nat.reduceAdd, List.cons_append, List.nil_append]
                          all_goals rfl
                        ·
                          intro gh X K zq zc zq2 zc2 zb zv hK
                          refine J.p (PR.move rfl) rfl ?_
                          refine J.nilK ?_
                          exact hK zq zc zq2 zc2 zb zv
                        ·
                          intro gh gh' h
                          first | simp only [h 1 rfl, h 3 rfl, h 4 rfl] | rfl
                        apply GJ.st0 7 rfl
                        · intro gh; conv => lhs; simp only [slotsZ, zlAt, vs0, resL, at2, eq_self, Nat.reduceEqDiff, reduceIte, Nat.reduceSub, Nat.reduceAdd, List.cons_append, List.nil_append]
                          all_goals rfl
                        · intro gh X; conv => lhs; simp only [slotsZ, zlAt, vs0, resL, at2, eq_self, Nat.reduceEqDiff, reduceIte, Nat.reduceSub, Nat.reduceAdd, List.cons_append, List.nil_append]
                          all_goals rfl
                        · intro gh X; conv => lhs; simp only [slotsZ, zlAt, vs0, resL, at2, eq_self, Nat.reduceEqDiff, reduceIte, Nat.reduceSub, Nat.reduceAdd, List.cons_append, List.nil_append]
                          all_goals rfl
                        ·
                          intro gh X K zq zc zq2 zc2 zb zv hK
                          refine J.p (PR.extract rfl rfl) rfl ?_
                          refine J.nilK ?_
                          exact hK zq zc zq2 zc2 zb zv
                        ·
                          intro gh gh' h
                          first | simp only [h 1 rfl, h 3 rfl, h 4 rfl] | rfl
                        apply GJ.st0 8 rfl
                        · intro gh; conv => lhs; simp only [slotsZ, zlAt, vs0, resL, at2, eq_self, Nat.reduceEqDiff, reduceIte, Nat.reduceSub, Nat.reduceAdd, List.cons_append, List.nil_append]
                          all_goals rfl
                        · intro gh X; conv => lhs; simp only [slotsZ, zlAt, vs0, resL, at2, eq_self, Nat.reduceEqDiff, reduceIte, Nat.reduceSub, Nat.reduceAdd, List.cons_append, List.nil_append]
                          all_goals rfl
                        · intro gh X; conv => lhs; simp only [slotsZ, zlAt, vs0, resL, at2, eq_self, Nat.reduceEqDiff, reduceIte, Nat.reduceSub, Nat.reduceAdd, List.cons_append, List.nil_append]
                          all_goals rfl
                        ·
                          intro gh X K zq zc zq2 zc2 zb zv hK
                          refine J.p (PR.extract rfl rfl) rfl ?_
                          refine J.nilK ?_
                          exact hK zq zc zq2 zc2 zb zv
                        ·
                          intro gh gh' h
                          first | simp only [h 1 rfl, h 3 rfl, h 4 rfl] | rfl
                        apply GJ.st1 9 rfl
                        · intro gh; conv => lhs; simp only [slotsZ, zlAt, vs0, resL, at2, eq_self, Nat.reduceEqDiff, reduceIte, Nat.reduceSub, Nat.reduceAdd, List.cons_append, List.nil_append]
                          all_goals rfl
                        · intro gh X; conv => lhs; simp only [slotsZ, zlAt, vs0, resL, at2, eq_self, Nat.reduceEqDiff, reduceIte, Nat.reduceSub, Nat.reduceAdd, List.cons_append, List.nil_append]
                          all_goals rfl
                        · intro gh X; conv => lhs; simp only [slotsZ, zlAt, vs0, resL, at2, eq_self, Nat.reduceEqDiff, reduceIte, Nat.reduceSub, Nat.reduceAdd, List.cons_append, List.nil_append]
                          all_goals rfl
                        ·
                          intro gh X K zq zc zq2 zc2 zb zv hK
                          refine J.alloc ze41 rfl fun g15 => ?_
                          refine J.nilK ?_
                          exact hK zq zc zq2 zc2 g15 zv
                        ·
                          intro gh gh' h
                          refine ⟨?_, ?_⟩ <;> rfl
                        apply GJ.sn1 10 rfl
                        · intro gh; conv => lhs; simp only [slotsZ, zlAt, vs0, resL, at2, eq_self, Nat.reduceEqDiff, reduceIte, Nat.reduceSub, Nat.reduceAdd, List.cons_append, List.nil_append]
                          all_goals rfl
                        · intro gh X; conv => lhs; simp only [slotsZ, zlAt, vs0, resL, at2, eq_self, Nat.reduceEqDiff, reduceIte, Nat.reduceSub, Nat.reduceAdd, List.cons_append, List.nil_append]
                          all_goals rfl
                        · intro gh X; conv => lhs; simp only [slotsZ, zlAt, vs0, resL, at2, eq_self, Nat.reduceEqDiff, reduceIte, Nat.reduceSub, Nat.reduceAdd, List.cons_append, List.nil_append]
                          all_goals rfl
                        ·
                          intro gh X K hK
                          refine J.storeAll rfl rfl (by first | exact bytesC_one _ | exact intsC_one _ | exact Term.c_one _ | simp [Value.oneCell']) (by simpa [*] using sz41) (by simp [*]) At.z ?_
                          refine J.nilK ?_
                          exact hK
                        ·
                          intro gh gh' h
                          first | simp only [h 1 rfl, h 3 rfl, h 4 rfl, h 8 rfl] | rfl
                        apply GJ.st0 11 rfl
                        · intro gh; conv => lhs; simp only [slotsZ, zlAt, vs0, resL, at2, eq_self, Nat.reduceEqDiff, reduceIte, Nat.reduceSub, Nat.reduceAdd, List.cons_append, List.nil_append]
                          all_goals rfl
                        · intro gh X; conv => lhs; simp only [slotsZ, zlAt, vs0, resL, at2, eq_self, Nat.reduceEqDiff, reduceIte, Nat.reduceSub, Nat.reduceAdd, List.cons_append, List.nil_append]
                          all_goals rfl
                        · intro gh X; conv => lhs; simp only [slotsZ, zlAt, vs0, resL, at2, eq_self, Nat.reduceEqDiff, reduceIte, Nat.reduceSub, Nat.reduceAdd, List.cons_append, List.nil_append]
                          all_goals rfl
                        ·
                          intro gh X K zq zc zq2 zc2 zb zv hK
                          refine J.p (PR.assign rfl) rfl ?_
                          refine J.nilK ?_
                          exact hK zq zc zq2 zc2 zb zv
                        ·
                          intro gh gh' h
                          first | simp only [h 1 rfl, h 3 rfl, h 4 rfl, h 8 rfl] | rfl
                        apply GJ.close [0, 1, 2, 3, 4, 5, 6, 7, 8, 9, 10] [0, 1, 2, 3, 4, 5, 6, 7, 9, 10, 11, 12, 13, 14, 15, 16, 17, 18, 19, 20, 21, 22, 23, 24, 25, 26, 27, 28, 29, 30, 31, 32] foll0 rfl rfl rfl (by rfl)
                        · intro gh; conv => lhs; simp only [slotsZ, zlAt, vs0, resL, at2, eq_self, Nat.reduceEqDiff, reduceIte, Nat.reduceSub, Nat.reduceAdd, List.cons_append, List.nil_append]
                          all_goals rfl
                        · intro gh; conv => lhs; simp only [slotsZ, zlAt, vs0, resL, at2, eq_self, Nat.reduceEqDiff, reduceIte, Nat.reduceSub, Nat.reduceAdd, List.cons_append, List.nil_append]
                          all_goals rfl
                        intro gh
                        generalize (gh 1).c = cdo96
                        generalize (gh 1).c2 = cfo96
                        generalize (gh 1).q = qdo96
                        generalize (gh 1).q2 = qfo96
                        generalize (gh 1).vs = vso96
                        generalize (gh 3).c = cdo98
                        generalize (gh 3).c2 = cfo98
                        generalize (gh 3).q = qdo98
                        generalize (gh 3).q2 = qfo98
                        generalize (gh 3).vs = vso98
                        generalize (gh 4).c = cdo99
                        generalize (gh 4).c2 = cfo99
                        generalize (gh 4).q = qdo99
                        generalize (gh 4).q2 = qfo99
                        generalize (gh 4).vs = vso99
                        generalize (gh 8).b = g15
                        clear gh
                        refine EJ.thenN (hK43 ?_)
                        refine CJ.seq fun _ hK44 _ => ?_
                        refine CJ.seq fun _ hK45 _ => ?_
                        refine CJ.region ?_
                        refine J.p (PR.loadAll rfl (.s (.s (.s (.s (.s (.s .z)))))) (by simpa [*] using ag41)) rfl ?_
                        refine J.p (PR.loadAll rfl (.s (.s (.s (.s (.s (.s (.s (.s (.s (.s (.s (.s (.s (.s (.s (.s (.s (.s (.s (.s (.s (.s (.s (.s (.s (.s .z)))))))))))))))))))))))))) (by simpa [*] using ag41)) rfl ?_
                        refine J.call fn30 rfl rfl fun w hH => hH.lend (.s (.s (.s (.s .z)))) fun Hl1 hle1 hA1 hB1 hH => hH.lend (.s (.s (.s (.s .z)))) fun Hl2 hle2 hA2 hB2 hH => hH.lend (.s (.s (.s (.s (.s (.s (.s .z))))))) fun Hl3 hle3 hA3 hB3 hH => hH.lend (.s (.s (.s (.s (.s (.s (.s .z))))))) fun Hl4 hle4 hA4 hB4 hH => (eqAlgebra_c ((((own_ints hA1).le hle2).le hle3).le hle4) (((own_forms (prF_wf haf.wfss hbf.wfss) hA2).le hle3).le hle4) ((own_ints hA3).le hle4) (own_forms (prF_wf haf.wfss hbf.wfss) hA4) (by omega) (by omega) f4 hH).mono ?_
                        rintro _ w ⟨rfl, hH⟩
                        replace hH := hB4 _ _ hH
                        replace hH := hB3 _ _ hH
                        replace hH := hB2 _ _ hH
                        replace hH := hB1 _ _ hH
                        refine ⟨_, rfl, fun a hF => J.of hF hH ?_⟩
                        refine J.p (PR.not rfl) rfl ?_
                        refine J.p (PR.move rfl) rfl ?_
                        refine J.splitB (jd := 106) rfl (fun hg106 => ?_) (fun hg106 => ?_)
                        ·
                          try have hg106p := of_decide_eq_true hg106
                          refine J.gn rfl rfl rfl hg106 ?_
                          refine J.gn rfl rfl rfl hg106 ?_
                          refine J.gn rfl rfl rfl hg106 ?_
                          refine J.p (PR.pickT rfl hg106 rfl) rfl ?_
                          refine J.nil ?_
                          refine EJ.thenN (hK45 ?_)
                          refine CJ.condT rfl ?_
                          refine CJ.seq fun _ hK46 _ => ?_
                          refine CJ.region ?_
                          refine J.p (PR.assign rfl) rfl ?_
                          refine J.nil ?_
                          refine EJ.thenN (hK46 ?_)
                          refine CJ.ret ?_
                          refine EJ.thenR ?_
                          refine EJ.ret1 rfl (Res.tmp rfl) fun w hH => ?_
                          replace hH := hH.tail
                          replace hH := hH.tail
                          replace hH := hH.tail
                          replace hH := hH.tail
                          replace hH := hH.tail
                          replace hH := hH.tail
                          replace hH := hH.tail
                          replace hH := hH.tail
                          replace hH := hH.tail
                          replace hH := hH.tail
                          replace hH := hH.tail
                          replace hH := hH.tail
                          replace hH := hH.tail
                          replace hH := hH.tail
                          replace hH := hH.tail
                          replace hH := hH.tail
                          replace hH := hH.tail
                          replace hH := hH.tail
                          replace hH := hH.tail
                          replace hH := hH.tail
                          replace hH := hH.tail
                          replace hH := hH.tail
                          replace hH := hH.tail
                          replace hH := hH.tail
                          replace hH := hH.tail
                          replace hH := hH.tail
                          replace hH := hH.tail
                          replace hH := hH.tail
                          replace hH := hH.tail
                          first | exact ⟨rfl, hH.below⟩ | exact absurd rfl hg106p | exact absurd rfl hg106 | (exfalso; omega) | (simp at hg106; done)
                        ·
                          try have hg106p := of_decide_eq_false hg106
                          refine J.gy (PR.move rfl) rfl rfl rfl hg106 ?_
                          refine J.gy (PR.move rfl) rfl rfl rfl hg106 ?_
                          refine J.gy (PR.neq rfl rfl) rfl rfl rfl hg106 ?_
                          refine J.p (PR.pickF rfl hg106 rfl) rfl ?_
                          refine J.nil ?_
                          refine EJ.thenN (hK45 ?_)
                          refine CJ.condD rfl (fun hc110 => ?_) (fun hc110 => ?_)
                          ·
                            refine CJ.seq fun _ hK47 _ => ?_
                            refine CJ.region ?_
                            refine J.p (PR.assign rfl) rfl ?_
                            refine J.nil ?_
                            refine EJ.thenN (hK47 ?_)
                            refine CJ.ret ?_
                            refine EJ.thenR ?_
                            refine EJ.ret1 rfl (Res.tmp rfl) fun w hH => ?_
                            replace hH := hH.tail
                            replace hH := hH.tail
                            replace hH := hH.tail
                            replace hH := hH.tail
                            replace hH := hH.tail
                            replace hH := hH.tail
                            replace hH := hH.tail
                            replace hH := hH.tail
                            replace hH := hH.tail
                            replace hH := hH.tail
                            replace hH := hH.tail
                            replace hH := hH.tail
                            replace hH := hH.tail
                            replace hH := hH.tail
                            replace hH := hH.tail
                            replace hH := hH.tail
                            replace hH := hH.tail
                            replace hH := hH.tail
                            replace hH := hH.tail
                            replace hH := hH.tail
                            replace hH := hH.tail
                            replace hH := hH.tail
                            replace hH := hH.tail
                            replace hH := hH.tail
                            replace hH := hH.tail
                            replace hH := hH.tail
                            replace hH := hH.tail
                            replace hH := hH.tail
                            replace hH := hH.tail
                            first | exact ⟨rfl, hH.below⟩ | exact absurd rfl hc110p | exact absurd rfl hc110 | (exfalso; omega) | (simp at hc110; done)
                          ·
                            refine CJ.skip ?_
                            refine EJ.thenN (hK44 ?_)
                            refine CJ.seq fun _ hK48 _ => ?_
                            refine CJ.region ?_
                            refine J.p (PR.assign rfl) rfl ?_
                            refine J.nil ?_
                            refine EJ.thenN (hK48 ?_)
                            refine CJ.seq fun _ hK49 _ => ?_
                            refine CJ.region ?_
                            refine J.p (PR.loadAll rfl (.s (.s (.s (.s (.s (.s (.s (.s (.s (.s (.s (.s (.s (.s (.s (.s (.s (.s (.s .z))))))))))))))))))) (by simpa [*] using ag41)) rfl ?_
                            refine J.p (PR.move rfl) rfl ?_
                            refine J.call fn32 rfl rfl fun w hH => hH.lend (.s (.s (.s (.s (.s (.s (.s (.s (.s .z))))))))) fun Hl1 hle1 hA1 hB1 hH => hH.lend (.s (.s (.s (.s (.s (.s (.s (.s (.s .z))))))))) fun Hl2 hle2 hA2 hB2 hH => (heldAlgebra_c ((own_mints hA1).le hle2) (own_mforms (by omega) hA2) (by omega) (by omega) hH).mono ?_
                            rintro _ w ⟨rfl, hH⟩
                            replace hH := hB2 _ _ hH
                            replace hH := hB1 _ _ hH
                            refine ⟨_, rfl, fun a hF => J.of hF hH ?_⟩
                            refine J.p (PR.assign rfl) rfl ?_
                            refine J.nil ?_
                            refine EJ.thenN (hK49 ?_)
                            refine CJ.seq fun _ hK50 _ => ?_
                            refine CJ.seq fun _ hK51 _ => ?_
                            refine CJ.region ?_
                            refine J.p (PR.move rfl) rfl ?_
                            refine J.p (PR.lss rfl rfl) rfl ?_
                            refine J.nil ?_
                            refine EJ.thenN (hK51 ?_)
                            refine CJ.condD rfl (fun hc115 => ?_) (fun hc115 => ?_)
                            ·
                              refine CJ.seq fun _ hK52 _ => ?_
                              refine CJ.region ?_
                              refine J.p (PR.assign rfl) rfl ?_
                              refine J.nil ?_
                              refine EJ.thenN (hK52 ?_)
                              refine CJ.ret ?_
                              refine EJ.thenR ?_
                              refine EJ.ret1 rfl (Res.tmp rfl) fun w hH => ?_
                              replace hH := hH.tail
                              replace hH := hH.tail
                              replace hH := hH.tail
                              replace hH := hH.tail
                              replace hH := hH.tail
                              replace hH := hH.tail
                              replace hH := hH.tail
                              replace hH := hH.tail
                              replace hH := hH.tail
                              replace hH := hH.tail
                              replace hH := hH.tail
                              replace hH := hH.tail
                              replace hH := hH.tail
                              replace hH := hH.tail
                              replace hH := hH.tail
                              replace hH := hH.tail
                              replace hH := hH.tail
                              replace hH := hH.tail
                              replace hH := hH.tail
                              replace hH := hH.tail
                              replace hH := hH.tail
                              replace hH := hH.tail
                              replace hH := hH.tail
                              replace hH := hH.tail
                              replace hH := hH.tail
                              replace hH := hH.tail
                              replace hH := hH.tail
                              replace hH := hH.tail
                              replace hH := hH.tail
                              first | exact ⟨rfl, hH.below⟩ | exact absurd rfl hc115p | exact absurd rfl hc115 | (exfalso; omega) | (simp at hc115; done)
                            ·
                              refine CJ.skip ?_
                              refine EJ.thenN (hK50 ?_)
                              refine CJ.seq fun _ hK53 _ => ?_
                              refine CJ.seq fun _ hK54 _ => ?_
                              refine CJ.region ?_
                              refine J.p (PR.move rfl) rfl ?_
                              refine J.p (PR.move rfl) rfl ?_
                              refine J.p (PR.neq rfl rfl) rfl ?_
                              refine J.nil ?_
                              refine EJ.thenN (hK54 ?_)
                              refine CJ.condD rfl (fun hc118 => ?_) (fun hc118 => ?_)
                              ·
                                refine CJ.seq fun _ hK55 _ => ?_
                                refine CJ.region ?_
                                refine J.p (PR.assign rfl) rfl ?_
                                refine J.nil ?_
                                refine EJ.thenN (hK55 ?_)
                                refine CJ.ret ?_
                                refine EJ.thenR ?_
                                refine EJ.ret1 rfl (Res.tmp rfl) fun w hH => ?_
                                replace hH := hH.tail
                                replace hH := hH.tail
                                replace hH := hH.tail
                                replace hH := hH.tail
                                replace hH := hH.tail
                                replace hH := hH.tail
                                replace hH := hH.tail
                                replace hH := hH.tail
                                replace hH := hH.tail
                                replace hH := hH.tail
                                replace hH := hH.tail
                                replace hH := hH.tail
                                replace hH := hH.tail
                                replace hH := hH.tail
                                replace hH := hH.tail
                                replace hH := hH.tail
                                replace hH := hH.tail
                                replace hH := hH.tail
                                replace hH := hH.tail
                                replace hH := hH.tail
                                replace hH := hH.tail
                                replace hH := hH.tail
                                replace hH := hH.tail
                                replace hH := hH.tail
                                replace hH := hH.tail
                                replace hH := hH.tail
                                replace hH := hH.tail
                                replace hH := hH.tail
                                replace hH := hH.tail
                                first | exact ⟨rfl, hH.below⟩ | exact absurd rfl hc118p | exact absurd rfl hc118 | (exfalso; omega) | (simp at hc118; done)
                              ·
                                refine CJ.skip ?_
                                refine EJ.thenN (hK53 ?_)
                                refine CJ.seq fun _ hK56 _ => ?_
                                refine CJ.region ?_
                                refine J.p (PR.assign rfl) rfl ?_
                                refine J.nil ?_
                                refine EJ.thenN (hK56 ?_)
                                refine CJ.ret ?_
                                refine EJ.ret1 rfl (Res.tmp rfl) fun w hH => ?_
                                replace hH := hH.tail
                                replace hH := hH.tail
                                replace hH := hH.tail
                                replace hH := hH.tail
                                replace hH := hH.tail
                                replace hH := hH.tail
                                replace hH := hH.tail
                                replace hH := hH.tail
                                replace hH := hH.tail
                                replace hH := hH.tail
                                replace hH := hH.tail
                                replace hH := hH.tail
                                replace hH := hH.tail
                                replace hH := hH.tail
                                replace hH := hH.tail
                                replace hH := hH.tail
                                replace hH := hH.tail
                                replace hH := hH.tail
                                replace hH := hH.tail
                                replace hH := hH.tail
                                replace hH := hH.tail
                                replace hH := hH.tail
                                replace hH := hH.tail
                                replace hH := hH.tail
                                replace hH := hH.tail
                                replace hH := hH.tail
                                replace hH := hH.tail
                                replace hH := hH.tail
                                replace hH := hH.tail
                                first | exact ⟨rfl, hH.below⟩ | exact absurd rfl hc118p | exact absurd rfl hc118 | (exfalso; omega) | (simp at hc118; done)
end Go.Proofs.Ytpojpokldncglaa.G
namespace Go.Proofs.Ytpojpokldncglaa.fnExactProductOfAlgebras
open Go.ChangeShapes Go.WideShapes Go.ChangeAt Go.RowKit
open Go.Proofs.Ytpojpokldncglaa.G
theorem u49 : Try.prog.underlying 49 = some (TypeDesc.struct #[{ name := "Degrees", type := 22, offset := 0, embedded := false, tag := "", pkgPath := "", byteOffset := 0 }, { name := "Images", type := 47, offset := 1, embedded := false, tag := "", pkgPath := "", byteOffset := 24 }]) := by kernel_rfl
theorem u22 : Try.prog.underlying 22 = some (TypeDesc.slice 2) := by kernel_rfl
theorem u2 : Try.prog.underlying 2 = some (TypeDesc.int .i64) := by kernel_rfl
theorem u47 : Try.prog.underlying 47 = some (TypeDesc.slice 25) := by kernel_rfl
theorem u25 : Try.prog.underlying 25 = some (TypeDesc.struct #[{ name := "Terms", type := 23, offset := 0, embedded := false, tag := "", pkgPath := "", byteOffset := 0 }]) := by kernel_rfl
theorem u23 : Try.prog.underlying 23 = some (TypeDesc.slice 139) := by kernel_rfl
theorem u139 : Try.prog.underlying 139 = some (TypeDesc.struct #[{ name := "Monomial", type := 85, offset := 0, embedded := false, tag := "", pkgPath := "", byteOffset := 0 }, { name := "Factor", type := 2, offset := 8, embedded := false, tag := "", pkgPath := "", byteOffset := 8 }]) := by kernel_rfl
theorem u85 : Try.prog.underlying 85 = some (TypeDesc.array 8 5) := by kernel_rfl
theorem u5 : Try.prog.underlying 5 = some (TypeDesc.int .u8) := by kernel_rfl
theorem u4 : Try.prog.underlying 4 = some (TypeDesc.bool) := by kernel_rfl
theorem own : ownKnob Try.prog.godebug = none := by kernel_rfl
set_option maxRecDepth 100000 in
theorem lifted (os : Os) (started : os.Started) (H : Type) (enc : TypeId × Value → H) :
    ReturnsInHanded {} Try.checked os 15 .any (Rows.fnExactProductOfAlgebrasSpec.pre6 enc Try.prog Try.f15 Rows.fnExactProductOfAlgebrasRow.domain false) (Rows.fnExactProductOfAlgebrasSpec.post enc Try.prog Try.f15 false true false false) := by
  refine returnsInHanded_of_change_sized (C := Try.checked) own started (by kernel_rfl) Try.func15
    (ChangeSpec.witness6 (enc := enc) (C := Try.checked) false ⟨#[], #[.agg #[.slice none 0 0, .slice none 0 0], .agg #[.slice none 0 0, .slice none 0 0]], []⟩ 12 (by kernel_rfl) (by kernel_rfl) (by kernel_rfl) (by kernel_rfl)) ?_
  intro W base args ds gs before hval0 hW hcnd hsz0 _
  have hval : ∀ (j : Nat) t v, Try.f15.params[j]? = some t → args[j]? = some v → Value.okWide Try.prog W .any base t v := hval0
  have hW' := hW
  obtain ⟨p, q, hA0, hV, rfl, hfz, hnd⟩ := hW
  have hA : DataW.TrodAll enc Try.prog W 0 (fun _ => true) true Try.f15.params.toList args.toList ds p := hA0
  rw [Try.params15] at hA hval
  obtain ⟨v0, vs0, d0, ds0, p0, q0, hargs, rfl, rfl, h0, r0⟩ := trodAll_cons hA
  obtain ⟨v1, vs1, d1, ds1, p1, q1, rfl, rfl, rfl, h1, r1⟩ := trodAll_cons r0
  obtain ⟨rfl, rfl, rfl⟩ := trodAll_nil r1
  obtain rfl : args = #[v0, v1] := by cases args; simp_all
  obtain ⟨rfl, rfl⟩ := trodVars_none hV
  obtain ⟨q0d, c0d, ds0, q0f, c0f, fs0, rfl, X0, F0, le0, fl0⟩ := openV_alg u49 rfl rfl rfl rfl (by kernel_rfl) (by kernel_rfl) (by kernel_rfl) u22 u2 (by kernel_rfl) u47 (by kernel_rfl) (fun n l y hy => tr_form u25 rfl rfl (by kernel_rfl) (by kernel_rfl) u23 (by kernel_rfl) u139 rfl rfl rfl rfl u85 u5 (by kernel_rfl) (by kernel_rfl) u2 (by kernel_rfl) hy) (hval 0 49 v0 rfl rfl) h0
  obtain ⟨q1d, c1d, ds1, q1f, c1f, fs1, rfl, X1, F1, le1, fl1⟩ := openV_alg u49 rfl rfl rfl rfl (by kernel_rfl) (by kernel_rfl) (by kernel_rfl) u22 u2 (by kernel_rfl) u47 (by kernel_rfl) (fun n l y hy => tr_form u25 rfl rfl (by kernel_rfl) (by kernel_rfl) u23 (by kernel_rfl) u139 rfl rfl rfl rfl u85 u5 (by kernel_rfl) (by kernel_rfl) u2 (by kernel_rfl) hy) (hval 1 49 v1 rfl rfl) h1
  clear hA0 hval0 hsz0
  refine ((lawProduct_c X0 F0 X1 F1 le0 fl0 le1 fl1 (Hp.start (H := hp W) fun _ _ h => h)).mono fun e W' ⟨he, bel⟩ => ?_)
  subst he
  exact ⟨_, rfl, law_post (f := Try.f15) (by kernel_rfl) (by kernel_rfl) rfl rfl u4 rfl hW' bel⟩
theorem joined : joinedFacts Try.prog 15 Try.f15 Rows.fnExactProductOfAlgebrasSpec Rows.fnExactProductOfAlgebrasRow = true := by
  unfold joinedFacts
  simp only [Bool.and_eq_true]
  repeat' apply And.intro
  all_goals first
    | with_reducible exact Facts.fEnter
    | with_reducible exact Facts.fLaid
    | with_reducible exact Facts.fMaps
    | with_reducible exact Facts.fHeard
    | (rw [Facts.fMake]; rfl)
    | (rw [Facts.fLift]; rfl)
    | (rw [Facts.fKeys]; rfl)
    | (rw [Facts.fStops]; rfl)
    | (rw [Facts.fStopK]; rfl)
    | as_aux_lemma => kernel_rfl
theorem over : Rows.fnExactProductOfAlgebrasRow.holds Try.pinned (OpenSpec.ofChange Rows.fnExactProductOfAlgebrasSpec) :=
  OpenClaim.holds_of_wide 15 Try.f15 rfl rfl rfl rfl rfl rfl rfl ⟨rfl, rfl, rfl, rfl, rfl⟩ rfl rfl rfl rfl rfl (by as_aux_lemma => kernel_rfl) Try.func15 joined
    (of_decide_eq_true (by as_aux_lemma => kernel_rfl)) (by unfold Func.isWrapper; first | (rw [if_pos (by decide +kernel)]; kernel_rfl) | (rw [if_neg (by decide +kernel)]; exact ⟨rfl, rfl⟩))
    (fun os started H enc _ => lifted os started H enc)
theorem proved : Rows.FnExactProductOfAlgebrasSaid := over
#print axioms proved
end Go.Proofs.Ytpojpokldncglaa.fnExactProductOfAlgebras
namespace Go.Proofs.Ytpojpokldncglaa
theorem fnExactProductOfAlgebras_holds : Rows.FnExactProductOfAlgebrasSaid := fnExactProductOfAlgebras.proved
end Go.Proofs.Ytpojpokldncglaa
