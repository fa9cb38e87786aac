/- The walks: what each Go function does, shown from its text. No condition. -/
import Derived.Test.YtodmnjbchegnaaaGMake
import Derived.Test.YtodmnjbchegnaaaProg
import Derived.Test.YtodmnjbchegnaaaWa
import Derived.Test.YtodmnjbchegnaaaWb
import Derived.Test.YtodmnjbchegnaaaWc
import Derived.Test.YtodmnjbchegnaaaWd
import Derived.Test.YtodmnjbchegnaaaWe
import Derived.Test.YtodmnjbchegnaaaWf
import Derived.Test.YtodmnjbchegnaaaWg
import Derived.Test.YtodmnjbchegnaaaWh
import Derived.Test.YtodmnjbchegnaaaWi
import Derived.Test.YtodmnjbchegnaaaWj
import Derived.Test.YtodmnjbchegnaaaWk
set_option linter.unusedVariables false
set_option linter.unusedSimpArgs false
namespace Go.Proofs.Ytodmnjbchegnaaa.G
open Go Go.RowKit
namespace Le
theorem u26 : Try.prog.underlying 26 = some (TypeDesc.slice 2) := by kernel_rfl
theorem u42 : Try.prog.underlying 42 = some (TypeDesc.struct #[{ name := "Degrees", type := 26, offset := 0, embedded := false, tag := "", pkgPath := "", byteOffset := 0 }, { name := "Images", type := 40, offset := 1, embedded := false, tag := "", pkgPath := "", byteOffset := 24 }]) := by kernel_rfl
theorem sz42 : Size Try.prog 42 2 := by unfold Size; kernel_rfl
theorem ze42 : Zero Try.prog 42 [.slice none 0 0, .slice none 0 0] := by unfold Zero; kernel_rfl
theorem ag42 : Agg Try.prog 42 2 := ⟨_, u42, rfl, by kernel_rfl⟩
theorem fn18 : Fn Try.prog 18 := ⟨_, Try.func18, by kernel_rfl, rfl⟩
theorem fn20 : Fn Try.prog 20 := ⟨_, Try.func20, by kernel_rfl, rfl⟩
theorem fn28 : Fn Try.prog 28 := ⟨_, Try.func28, by kernel_rfl, rfl⟩
theorem fn32 : Fn Try.prog 32 := ⟨_, Try.func32, by kernel_rfl, rfl⟩
theorem fn33 : Fn Try.prog 33 := ⟨_, Try.func33, by kernel_rfl, rfl⟩
theorem fn34 : Fn Try.prog 34 := ⟨_, Try.func34, by kernel_rfl, rfl⟩
theorem fn40 : Fn Try.prog 40 := ⟨_, Try.func40, by kernel_rfl, rfl⟩
theorem fn41 : Fn Try.prog 41 := ⟨_, Try.func41, by kernel_rfl, rfl⟩
end Le
open Le
set_option maxHeartbeats 1000000 in
set_option maxRecDepth 10000 in
theorem lawFreeAlgebra_c {B : World} {H0 H : HP} {L : List SA} {w : World} {qds : Option Addr} {cds : Nat} {ds : List Int} (hds : Ints H qds ds) (hH : Hp B H0 H L w) :
    Calls Try.prog 11 [.slice qds ds.length cds].toArray w fun e w' => e = .returned (.bool true) ∧ Below B.heap.size B w' := by
  refine CJ.enter Try.func11 rfl 93 rfl rfl [(0, .slice qds ds.length cds)] rfl hH ?_
  clear hH
  have f1 := freeD_len ds
  have f2 := freeF_len ds
  have f3 := freeF_tot ds
  have f4 : ∀ i, i < (freeF ds).length → (fm (freeF ds) i).length ≤ 9223372036854775807 := fun i _ => freeF_nil ds i
  refine CJ.seq fun _ hK1 _ => ?_
  refine CJ.region ?_
  refine J.p (PR.assign rfl) rfl ?_
  refine J.nil ?_
  refine EJ.thenN (hK1 ?_)
  refine CJ.seq fun _ hK2 _ => ?_
  refine CJ.seq fun _ hK3 _ => ?_
  refine CJ.region ?_
  refine J.p (PR.move rfl) rfl ?_
  refine J.p (PR.lenSlice u26 rfl rfl) rfl ?_
  refine J.p (PR.gtr rfl rfl) rfl ?_
  refine J.nil ?_
  refine EJ.thenN (hK3 ?_)
  refine CJ.condD rfl (fun hc15 => ?_) (fun hc15 => ?_)
  ·
    refine CJ.seq fun _ hK4 _ => ?_
    refine CJ.region ?_
    refine J.p (PR.assign rfl) rfl ?_
    refine J.nil ?_
    refine EJ.thenN (hK4 ?_)
    refine CJ.ret ?_
    refine EJ.thenR ?_
    refine EJ.ret1 rfl (Res.tmp rfl) fun w hH => ?_
    first | exact ⟨rfl, hH.below⟩ | exact absurd rfl hc15p | exact absurd rfl hc15 | (exfalso; omega) | (simp at hc15; done)
  ·
    refine CJ.skip ?_
    refine EJ.thenN (hK2 ?_)
    refine CJ.seq fun _ hK5 _ => ?_
    refine CJ.region ?_
    refine J.p (PR.move rfl) rfl ?_
    refine J.call fn18 rfl rfl fun w hH => (toInt64S_c hds (by omega) hH).mono ?_
    rintro _ w ⟨qo18, co18, rfl, hH⟩
    refine ⟨_, rfl, fun a hF => J.of hF hH ?_⟩
    refine J.call fn40 rfl rfl fun w hH => hH.lend .z fun Hl1 hle1 hA1 hB1 hH => (sFreeAlgebra_c (own_ints hA1) (by omega) hH).mono ?_
    rintro _ w ⟨qdo19, cdo19, qfo19, cfo19, vso19, rfl, hH⟩
    replace hH := hB1 _ _ hH
    refine ⟨_, rfl, fun a hF => J.of hF hH ?_⟩
    refine J.p (PR.move rfl) rfl ?_
    refine J.p (PR.extract rfl rfl) rfl ?_
    refine J.p (PR.extract rfl rfl) rfl ?_
    refine J.alloc ze42 rfl fun g3 => ?_
    refine J.storeAll rfl rfl (by first | exact bytesC_one _ | exact intsC_one _ | exact Term.c_one _ | simp [Value.oneCell']) (by simpa [*] using sz42) (by simp [*]) At.z ?_
    refine J.p (PR.assign rfl) rfl ?_
    refine J.nil ?_
    refine EJ.thenN (hK5 ?_)
    refine CJ.seq fun _ hK6 _ => ?_
    refine CJ.region ?_
    refine J.p (PR.move rfl) rfl ?_
    refine J.call fn18 rfl rfl fun w hH => (toInt64S_c hds (by omega) hH).mono ?_
    rintro _ w ⟨qo23, co23, rfl, hH⟩
    refine ⟨_, rfl, fun a hF => J.of hF hH ?_⟩
    refine J.p (PR.assign rfl) rfl ?_
    refine J.nil ?_
    refine EJ.thenN (hK6 ?_)
    refine CJ.seq fun _ hK7 _ => ?_
    refine CJ.region ?_
    refine J.p (PR.move rfl) rfl ?_
    refine J.call fn41 rfl rfl fun w hH => hH.lend .z fun Hl1 hle1 hA1 hB1 hH => (FreeAlgebra_c (own_ints hA1) (by omega) hH).mono ?_
    rintro _ w ⟨qdo26, cdo26, qfo26, cfo26, vso26, rfl, hH⟩
    replace hH := hB1 _ _ hH
    refine ⟨_, rfl, fun a hF => J.of hF hH ?_⟩
    refine J.p (PR.move rfl) rfl ?_
    refine J.p (PR.extract rfl rfl) rfl ?_
    refine J.p (PR.extract rfl rfl) rfl ?_
    refine J.alloc ze42 rfl fun g6 => ?_
    refine J.storeAll rfl rfl (by first | exact bytesC_one _ | exact intsC_one _ | exact Term.c_one _ | simp [Value.oneCell']) (by simpa [*] using sz42) (by simp [*]) At.z ?_
    refine J.p (PR.assign rfl) rfl ?_
    refine J.nil ?_
    refine EJ.thenN (hK7 ?_)
    refine CJ.seq fun _ hK8 _ => ?_
    refine CJ.seq fun _ hK9 _ => ?_
    refine CJ.region ?_
    refine J.p (PR.loadAll rfl At.z (by simpa [*] using ag42)) rfl ?_
    refine J.p (PR.loadAll rfl (.s (.s (.s (.s .z)))) (by simpa [*] using ag42)) rfl ?_
    refine J.call fn32 rfl rfl fun w hH => hH.lend (.s (.s .z)) fun Hl1 hle1 hA1 hB1 hH => hH.lend (.s (.s .z)) fun Hl2 hle2 hA2 hB2 hH => hH.lend (.s (.s (.s (.s .z)))) fun Hl3 hle3 hA3 hB3 hH => hH.lend (.s (.s (.s (.s .z)))) fun Hl4 hle4 hA4 hB4 hH => (eqAlgebra_c ((((own_ints hA1).le hle2).le hle3).le hle4) (((own_forms (freeF_wf _) hA2).le hle3).le hle4) ((own_ints hA3).le hle4) (own_forms (freeF_wf _) hA4) (by omega) (by omega) (by omega) hH).mono ?_
    rintro _ w ⟨rfl, hH⟩
    replace hH := hB4 _ _ hH
    replace hH := hB3 _ _ hH
    replace hH := hB2 _ _ hH
    replace hH := hB1 _ _ hH
    refine ⟨_, rfl, fun a hF => J.of hF hH ?_⟩
    refine J.p (PR.not rfl) rfl ?_
    refine J.p (PR.move rfl) rfl ?_
    refine J.splitB (jd := 33) rfl (fun hg33 => ?_) (fun hg33 => ?_)
    ·
      try have hg33p := of_decide_eq_true hg33
      refine J.gn rfl rfl rfl hg33 ?_
      refine J.gn rfl rfl rfl hg33 ?_
      refine J.gn rfl rfl rfl hg33 ?_
      refine J.p (PR.pickT rfl hg33 rfl) rfl ?_
      refine J.nil ?_
      refine EJ.thenN (hK9 ?_)
      refine CJ.condT rfl ?_
      refine CJ.seq fun _ hK10 _ => ?_
      refine CJ.region ?_
      refine J.p (PR.assign rfl) rfl ?_
      refine J.nil ?_
      refine EJ.thenN (hK10 ?_)
      refine CJ.ret ?_
      refine EJ.thenR ?_
      refine EJ.ret1 rfl (Res.tmp rfl) fun w hH => ?_
      replace hH := hH.tail
      replace hH := hH.tail
      replace hH := hH.tail
      replace hH := hH.tail
      replace hH := hH.tail
      replace hH := hH.tail
      replace hH := hH.tail
      replace hH := hH.tail
      first | exact ⟨rfl, hH.below⟩ | exact absurd rfl hg33p | exact absurd rfl hg33 | (exfalso; omega) | (simp at hg33; done)
    ·
      try have hg33p := of_decide_eq_false hg33
      refine J.gy (PR.move rfl) rfl rfl rfl hg33 ?_
      refine J.gy (PR.move rfl) rfl rfl rfl hg33 ?_
      refine J.gy (PR.neq rfl rfl) rfl rfl rfl hg33 ?_
      refine J.p (PR.pickF rfl hg33 rfl) rfl ?_
      refine J.nil ?_
      refine EJ.thenN (hK9 ?_)
      refine CJ.condD rfl (fun hc37 => ?_) (fun hc37 => ?_)
      ·
        refine CJ.seq fun _ hK11 _ => ?_
        refine CJ.region ?_
        refine J.p (PR.assign rfl) rfl ?_
        refine J.nil ?_
        refine EJ.thenN (hK11 ?_)
        refine CJ.ret ?_
        refine EJ.thenR ?_
        refine EJ.ret1 rfl (Res.tmp rfl) fun w hH => ?_
        replace hH := hH.tail
        replace hH := hH.tail
        replace hH := hH.tail
        replace hH := hH.tail
        replace hH := hH.tail
        replace hH := hH.tail
        replace hH := hH.tail
        replace hH := hH.tail
        first | exact ⟨rfl, hH.below⟩ | exact absurd rfl hc37p | exact absurd rfl hc37 | (exfalso; omega) | (simp at hc37; done)
      ·
        refine CJ.skip ?_
        refine EJ.thenN (hK8 ?_)
        refine CJ.seq fun _ hK12 _ => ?_
        refine CJ.seq fun _ hK13 _ => ?_
        refine CJ.region ?_
        refine J.p (PR.move rfl) rfl ?_
        refine J.p (PR.move rfl) rfl ?_
        refine J.call fn18 rfl rfl fun w hH => (toInt64S_c hds (by omega) hH).mono ?_
        rintro _ w ⟨qo40, co40, rfl, hH⟩
        refine ⟨_, rfl, fun a hF => J.of hF hH ?_⟩
        refine J.call fn20 rfl rfl fun w hH => hH.lend (.s (.s (.s (.s (.s (.s .z)))))) fun Hl1 hle1 hA1 hB1 hH => hH.lend .z fun Hl2 hle2 hA2 hB2 hH => (eqInt64S_c ((own_ints hA1).le hle2) (own_ints hA2) (by omega) hH).mono ?_
        rintro _ w ⟨rfl, hH⟩
        replace hH := hB2 _ _ hH
        replace hH := hB1 _ _ hH
        refine ⟨_, rfl, fun a hF => J.of hF hH ?_⟩
        refine J.p (PR.not rfl) rfl ?_
        refine J.nil ?_
        refine EJ.thenN (hK13 ?_)
        refine CJ.cond rfl (fun hc42 => ?_) (fun hc42 => ?_)
        ·
          refine CJ.seq fun _ hK14 _ => ?_
          refine CJ.region ?_
          refine J.p (PR.assign rfl) rfl ?_
          refine J.nil ?_
          refine EJ.thenN (hK14 ?_)
          refine CJ.ret ?_
          refine EJ.thenR ?_
          refine EJ.ret1 rfl (Res.tmp rfl) fun w hH => ?_
          replace hH := hH.tail
          replace hH := hH.tail
          replace hH := hH.tail
          replace hH := hH.tail
          replace hH := hH.tail
          replace hH := hH.tail
          replace hH := hH.tail
          replace hH := hH.tail
          replace hH := hH.tail
          first | exact ⟨rfl, hH.below⟩ | exact absurd rfl hc42p | exact absurd rfl hc42 | (exfalso; omega) | (simp at hc42; done)
        ·
          refine CJ.skip ?_
          refine EJ.thenN (hK12 ?_)
          refine CJ.seq fun _ hK15 _ => ?_
          refine CJ.region ?_
          refine J.p (PR.assign rfl) rfl ?_
          refine J.nil ?_
          refine EJ.thenN (hK15 ?_)
          refine CJ.seq fun _ hK16 _ => ?_
          refine CJ.region ?_
          refine J.p (PR.move rfl) rfl ?_
          refine J.p (PR.move rfl) rfl ?_
          refine J.call fn28 rfl rfl fun w hH => (markInt64S_c (by omega) (hH.front .z)).mono ?_
          rintro _ w ⟨rfl, hH⟩
          refine ⟨_, rfl, fun a hF => J.of hF hH ?_⟩
          refine J.p (PR.assign rfl) rfl ?_
          refine J.nil ?_
          refine EJ.thenN (hK16 ?_)
          refine CJ.seq fun _ hK17 _ => ?_
          refine CJ.seq fun _ hK18 _ => ?_
          refine CJ.region ?_
          refine J.p (PR.move rfl) rfl ?_
          refine J.p (PR.lss rfl rfl) rfl ?_
          refine J.p (PR.move rfl) rfl ?_
          refine J.splitB (jd := 48) rfl (fun hg48 => ?_) (fun hg48 => ?_)
          ·
            try have hg48p := of_decide_eq_true hg48
            refine J.gn rfl rfl rfl hg48 ?_
            refine J.gn rfl rfl rfl hg48 ?_
            refine J.gn rfl rfl rfl hg48 ?_
            refine J.gn rfl rfl rfl hg48 ?_
            refine J.p (PR.pickT rfl hg48 rfl) rfl ?_
            refine J.p (PR.move rfl) rfl ?_
            refine J.gn rfl rfl rfl rfl ?_
            refine J.gn rfl rfl rfl rfl ?_
            refine J.gn rfl rfl rfl rfl ?_
            refine J.p (PR.pickT rfl rfl rfl) rfl ?_
            refine J.nil ?_
            refine EJ.thenN (hK18 ?_)
            refine CJ.condT rfl ?_
            refine CJ.seq fun _ hK19 _ => ?_
            refine CJ.region ?_
            refine J.p (PR.assign rfl) rfl ?_
            refine J.nil ?_
            refine EJ.thenN (hK19 ?_)
            refine CJ.ret ?_
            refine EJ.thenR ?_
            refine EJ.ret1 rfl (Res.tmp rfl) fun w hH => ?_
            replace hH := hH.tail
            replace hH := hH.tail
            replace hH := hH.tail
            replace hH := hH.tail
            replace hH := hH.tail
            replace hH := hH.tail
            replace hH := hH.tail
            replace hH := hH.tail
            replace hH := hH.tail
            first | exact ⟨rfl, hH.below⟩ | exact absurd rfl hg48p | exact absurd rfl hg48 | (exfalso; omega) | (simp at hg48; done)
          ·
            try have hg48p := of_decide_eq_false hg48
            refine J.gy (PR.loadAll rfl (.s (.s (.s (.s (.s (.s .z)))))) (by simpa [*] using ag42)) rfl rfl rfl hg48 ?_
            refine J.gy (PR.loadAll rfl (.s (.s (.s (.s (.s (.s (.s .z))))))) (by simpa [*] using ag42)) rfl rfl rfl hg48 ?_
            refine J.gcall fn32 rfl rfl hg48 rfl rfl fun w hH => hH.lend (.s (.s .z)) fun Hl1 hle1 hA1 hB1 hH => hH.lend (.s (.s .z)) fun Hl2 hle2 hA2 hB2 hH => hH.lend (.s (.s .z)) fun Hl3 hle3 hA3 hB3 hH => hH.lend (.s (.s .z)) fun Hl4 hle4 hA4 hB4 hH => (eqAlgebra_c ((((own_ints hA1).le hle2).le hle3).le hle4) (((own_forms (freeF_wf _) hA2).le hle3).le hle4) ((own_ints hA3).le hle4) (own_forms (freeF_wf _) hA4) (by omega) (by omega) (by omega) hH).mono ?_
            rintro _ w ⟨rfl, hH⟩
            replace hH := hB4 _ _ hH
            replace hH := hB3 _ _ hH
            replace hH := hB2 _ _ hH
            replace hH := hB1 _ _ hH
            refine ⟨_, rfl, fun a hF => J.of hF hH ?_⟩
            refine J.gy (PR.not rfl) rfl rfl rfl hg48 ?_
            refine J.p (PR.pickF rfl hg48 rfl) rfl ?_
            refine J.p (PR.move rfl) rfl ?_
            refine J.splitB (jd := 54) rfl (fun hg54 => ?_) (fun hg54 => ?_)
            ·
              try have hg54p := of_decide_eq_true hg54
              refine J.gn rfl rfl rfl hg54 ?_
              refine J.gn rfl rfl rfl hg54 ?_
              refine J.gn rfl rfl rfl hg54 ?_
              refine J.p (PR.pickT rfl hg54 rfl) rfl ?_
              refine J.nil ?_
              refine EJ.thenN (hK18 ?_)
              refine CJ.condT rfl ?_
              refine CJ.seq fun _ hK20 _ => ?_
              refine CJ.region ?_
              refine J.p (PR.assign rfl) rfl ?_
              refine J.nil ?_
              refine EJ.thenN (hK20 ?_)
              refine CJ.ret ?_
              refine EJ.thenR ?_
              refine EJ.ret1 rfl (Res.tmp rfl) fun w hH => ?_
              replace hH := hH.tail
              replace hH := hH.tail
              replace hH := hH.tail
              replace hH := hH.tail
              replace hH := hH.tail
              replace hH := hH.tail
              replace hH := hH.tail
              replace hH := hH.tail
              replace hH := hH.tail
              first | exact ⟨rfl, hH.below⟩ | exact absurd rfl hg54p | exact absurd rfl hg54 | (exfalso; omega) | (simp at hg54; done)
            ·
              try have hg54p := of_decide_eq_false hg54
              refine J.gy (PR.move rfl) rfl rfl rfl hg54 ?_
              refine J.gy (PR.move rfl) rfl rfl rfl hg54 ?_
              refine J.gy (PR.neq rfl rfl) rfl rfl rfl hg54 ?_
              refine J.p (PR.pickF rfl hg54 rfl) rfl ?_
              refine J.nil ?_
              refine EJ.thenN (hK18 ?_)
              refine CJ.condD rfl (fun hc58 => ?_) (fun hc58 => ?_)
              ·
                refine CJ.seq fun _ hK21 _ => ?_
                refine CJ.region ?_
                refine J.p (PR.assign rfl) rfl ?_
                refine J.nil ?_
                refine EJ.thenN (hK21 ?_)
                refine CJ.ret ?_
                refine EJ.thenR ?_
                refine EJ.ret1 rfl (Res.tmp rfl) fun w hH => ?_
                replace hH := hH.tail
                replace hH := hH.tail
                replace hH := hH.tail
                replace hH := hH.tail
                replace hH := hH.tail
                replace hH := hH.tail
                replace hH := hH.tail
                replace hH := hH.tail
                replace hH := hH.tail
                first | exact ⟨rfl, hH.below⟩ | exact absurd rfl hc58p | exact absurd rfl hc58 | (exfalso; omega) | (simp at hc58; done)
              ·
                refine CJ.skip ?_
                refine EJ.thenN (hK17 ?_)
                refine CJ.seq fun _ hK22 _ => ?_
                refine CJ.region ?_
                refine J.p (PR.assign rfl) rfl ?_
                refine J.nil ?_
                refine EJ.thenN (hK22 ?_)
                refine CJ.seq fun _ hK23 _ => ?_
                refine CJ.region ?_
                refine J.p (PR.loadAll rfl (.s (.s (.s (.s (.s (.s .z)))))) (by simpa [*] using ag42)) rfl ?_
                refine J.p (PR.move rfl) rfl ?_
                refine J.call fn33 rfl rfl fun w hH => (markAlgebra_c (by omega) (by omega) ((hH.front (.s .z)).front (.s .z))).mono ?_
                rintro _ w ⟨rfl, hH⟩
                refine ⟨_, rfl, fun a hF => J.of hF hH ?_⟩
                refine J.p (PR.assign rfl) rfl ?_
                refine J.nil ?_
                refine EJ.thenN (hK23 ?_)
                refine CJ.seq fun _ hK24 _ => ?_
                refine CJ.region ?_
                refine J.p (PR.assign rfl) rfl ?_
                refine J.nil ?_
                refine EJ.thenN (hK24 ?_)
                refine CJ.seq fun _ hK25 _ => ?_
                refine CJ.region ?_
                refine J.p (PR.loadAll rfl (.s (.s (.s (.s (.s (.s .z)))))) (by simpa [*] using ag42)) rfl ?_
                refine J.p (PR.move rfl) rfl ?_
                refine J.call fn34 rfl rfl fun w hH => hH.lend .z fun Hl1 hle1 hA1 hB1 hH => hH.lend .z fun Hl2 hle2 hA2 hB2 hH => (heldAlgebra_c ((own_mints hA1).le hle2) (own_mforms (by omega) hA2) (by omega) (by omega) hH).mono ?_
                rintro _ w ⟨rfl, hH⟩
                replace hH := hB2 _ _ hH
                replace hH := hB1 _ _ hH
                refine ⟨_, rfl, fun a hF => J.of hF hH ?_⟩
                refine J.p (PR.assign rfl) rfl ?_
                refine J.nil ?_
                refine EJ.thenN (hK25 ?_)
                refine CJ.seq fun _ hK26 _ => ?_
                refine CJ.seq fun _ hK27 _ => ?_
                refine CJ.region ?_
                refine J.p (PR.move rfl) rfl ?_
                refine J.p (PR.lss rfl rfl) rfl ?_
                refine J.nil ?_
                refine EJ.thenN (hK27 ?_)
                refine CJ.condD rfl (fun hc66 => ?_) (fun hc66 => ?_)
                ·
                  refine CJ.seq fun _ hK28 _ => ?_
                  refine CJ.region ?_
                  refine J.p (PR.assign rfl) rfl ?_
                  refine J.nil ?_
                  refine EJ.thenN (hK28 ?_)
                  refine CJ.ret ?_
                  refine EJ.thenR ?_
                  refine EJ.ret1 rfl (Res.tmp rfl) fun w hH => ?_
                  replace hH := hH.tail
                  replace hH := hH.tail
                  replace hH := hH.tail
                  replace hH := hH.tail
                  replace hH := hH.tail
                  replace hH := hH.tail
                  replace hH := hH.tail
                  replace hH := hH.tail
                  replace hH := hH.tail
                  first | exact ⟨rfl, hH.below⟩ | exact absurd rfl hc66p | exact absurd rfl hc66 | (exfalso; omega) | (simp at hc66; done)
                ·
                  refine CJ.skip ?_
                  refine EJ.thenN (hK26 ?_)
                  refine CJ.seq fun _ hK29 _ => ?_
                  refine CJ.seq fun _ hK30 _ => ?_
                  refine CJ.region ?_
                  refine J.p (PR.move rfl) rfl ?_
                  refine J.p (PR.move rfl) rfl ?_
                  refine J.p (PR.neq rfl rfl) rfl ?_
                  refine J.nil ?_
                  refine EJ.thenN (hK30 ?_)
                  refine CJ.condD rfl (fun hc69 => ?_) (fun hc69 => ?_)
                  ·
                    refine CJ.seq fun _ hK31 _ => ?_
                    refine CJ.region ?_
                    refine J.p (PR.assign rfl) rfl ?_
                    refine J.nil ?_
                    refine EJ.thenN (hK31 ?_)
                    refine CJ.ret ?_
                    refine EJ.thenR ?_
                    refine EJ.ret1 rfl (Res.tmp rfl) fun w hH => ?_
                    replace hH := hH.tail
                    replace hH := hH.tail
                    replace hH := hH.tail
                    replace hH := hH.tail
                    replace hH := hH.tail
                    replace hH := hH.tail
                    replace hH := hH.tail
                    replace hH := hH.tail
                    replace hH := hH.tail
                    first | exact ⟨rfl, hH.below⟩ | exact absurd rfl hc69p | exact absurd rfl hc69 | (exfalso; omega) | (simp at hc69; done)
                  ·
                    refine CJ.skip ?_
                    refine EJ.thenN (hK29 ?_)
                    refine CJ.seq fun _ hK32 _ => ?_
                    refine CJ.region ?_
                    refine J.p (PR.move rfl) rfl ?_
                    refine J.call fn18 rfl rfl fun w hH => (toInt64S_c hds (by omega) hH).mono ?_
                    rintro _ w ⟨qo72, co72, rfl, hH⟩
                    refine ⟨_, rfl, fun a hF => J.of hF hH ?_⟩
                    refine J.call fn41 rfl rfl fun w hH => hH.lend .z fun Hl1 hle1 hA1 hB1 hH => (FreeAlgebra_c (own_ints hA1) (by omega) hH).mono ?_
                    rintro _ w ⟨qdo73, cdo73, qfo73, cfo73, vso73, rfl, hH⟩
                    replace hH := hB1 _ _ hH
                    refine ⟨_, rfl, fun a hF => J.of hF hH ?_⟩
                    refine J.p (PR.move rfl) rfl ?_
                    refine J.p (PR.extract rfl rfl) rfl ?_
                    refine J.p (PR.extract rfl rfl) rfl ?_
                    refine J.alloc ze42 rfl fun g11 => ?_
                    refine J.storeAll rfl rfl (by first | exact bytesC_one _ | exact intsC_one _ | exact Term.c_one _ | simp [Value.oneCell']) (by simpa [*] using sz42) (by simp [*]) At.z ?_
                    refine J.p (PR.assign rfl) rfl ?_
                    refine J.nil ?_
                    refine EJ.thenN (hK32 ?_)
                    refine CJ.seq fun _ hK33 _ => ?_
                    refine CJ.seq fun _ hK34 _ => ?_
                    refine CJ.region ?_
                    refine J.p (PR.loadAll rfl At.z (by simpa [*] using ag42)) rfl ?_
                    refine J.p (PR.loadAll rfl (.s (.s (.s (.s (.s (.s (.s (.s (.s (.s (.s .z))))))))))) (by simpa [*] using ag42)) rfl ?_
                    refine J.call fn32 rfl rfl fun w hH => hH.lend (.s (.s .z)) fun Hl1 hle1 hA1 hB1 hH => hH.lend (.s (.s .z)) fun Hl2 hle2 hA2 hB2 hH => hH.lend (.s (.s (.s (.s .z)))) fun Hl3 hle3 hA3 hB3 hH => hH.lend (.s (.s (.s (.s .z)))) fun Hl4 hle4 hA4 hB4 hH => (eqAlgebra_c ((((own_ints hA1).le hle2).le hle3).le hle4) (((own_forms (freeF_wf _) hA2).le hle3).le hle4) ((own_ints hA3).le hle4) (own_forms (freeF_wf _) hA4) (by omega) (by omega) (by omega) hH).mono ?_
                    rintro _ w ⟨rfl, hH⟩
                    replace hH := hB4 _ _ hH
                    replace hH := hB3 _ _ hH
                    replace hH := hB2 _ _ hH
                    replace hH := hB1 _ _ hH
                    refine ⟨_, rfl, fun a hF => J.of hF hH ?_⟩
                    refine J.p (PR.not rfl) rfl ?_
                    refine J.p (PR.move rfl) rfl ?_
                    refine J.splitB (jd := 80) rfl (fun hg80 => ?_) (fun hg80 => ?_)
                    ·
                      try have hg80p := of_decide_eq_true hg80
                      refine J.gn rfl rfl rfl hg80 ?_
                      refine J.gn rfl rfl rfl hg80 ?_
                      refine J.gn rfl rfl rfl hg80 ?_
                      refine J.p (PR.pickT rfl hg80 rfl) rfl ?_
                      refine J.nil ?_
                      refine EJ.thenN (hK34 ?_)
                      refine CJ.condT rfl ?_
                      refine CJ.seq fun _ hK35 _ => ?_
                      refine CJ.region ?_
                      refine J.p (PR.assign rfl) rfl ?_
                      refine J.nil ?_
                      refine EJ.thenN (hK35 ?_)
                      refine CJ.ret ?_
                      refine EJ.thenR ?_
                      refine EJ.ret1 rfl (Res.tmp rfl) fun w hH => ?_
                      replace hH := hH.tail
                      replace hH := hH.tail
                      replace hH := hH.tail
                      replace hH := hH.tail
                      replace hH := hH.tail
                      replace hH := hH.tail
                      replace hH := hH.tail
                      replace hH := hH.tail
                      replace hH := hH.tail
                      replace hH := hH.tail
                      replace hH := hH.tail
                      replace hH := hH.tail
                      replace hH := hH.tail
                      first | exact ⟨rfl, hH.below⟩ | exact absurd rfl hg80p | exact absurd rfl hg80 | (exfalso; omega) | (simp at hg80; done)
                    ·
                      try have hg80p := of_decide_eq_false hg80
                      refine J.gy (PR.move rfl) rfl rfl rfl hg80 ?_
                      refine J.gy (PR.move rfl) rfl rfl rfl hg80 ?_
                      refine J.gy (PR.neq rfl rfl) rfl rfl rfl hg80 ?_
                      refine J.p (PR.pickF rfl hg80 rfl) rfl ?_
                      refine J.nil ?_
                      refine EJ.thenN (hK34 ?_)
                      refine CJ.condD rfl (fun hc84 => ?_) (fun hc84 => ?_)
                      ·
                        refine CJ.seq fun _ hK36 _ => ?_
                        refine CJ.region ?_
                        refine J.p (PR.assign rfl) rfl ?_
                        refine J.nil ?_
                        refine EJ.thenN (hK36 ?_)
                        refine CJ.ret ?_
                        refine EJ.thenR ?_
                        refine EJ.ret1 rfl (Res.tmp rfl) fun w hH => ?_
                        replace hH := hH.tail
                        replace hH := hH.tail
                        replace hH := hH.tail
                        replace hH := hH.tail
                        replace hH := hH.tail
                        replace hH := hH.tail
                        replace hH := hH.tail
                        replace hH := hH.tail
                        replace hH := hH.tail
                        replace hH := hH.tail
                        replace hH := hH.tail
                        replace hH := hH.tail
                        replace hH := hH.tail
                        first | exact ⟨rfl, hH.below⟩ | exact absurd rfl hc84p | exact absurd rfl hc84 | (exfalso; omega) | (simp at hc84; done)
                      ·
                        refine CJ.skip ?_
                        refine EJ.thenN (hK33 ?_)
                        refine CJ.seq fun _ hK37 _ => ?_
                        refine CJ.region ?_
                        refine J.p (PR.assign rfl) rfl ?_
                        refine J.nil ?_
                        refine EJ.thenN (hK37 ?_)
                        refine CJ.seq fun _ hK38 _ => ?_
                        refine CJ.region ?_
                        refine J.p (PR.loadAll rfl (.s (.s (.s (.s (.s (.s (.s (.s (.s (.s .z)))))))))) (by simpa [*] using ag42)) rfl ?_
                        refine J.p (PR.move rfl) rfl ?_
                        refine J.call fn34 rfl rfl fun w hH => hH.lend (.s (.s (.s (.s (.s (.s .z)))))) fun Hl1 hle1 hA1 hB1 hH => hH.lend (.s (.s (.s (.s (.s (.s .z)))))) fun Hl2 hle2 hA2 hB2 hH => (heldAlgebra_c ((own_mints hA1).le hle2) (own_mforms (by omega) hA2) (by omega) (by omega) hH).mono ?_
                        rintro _ w ⟨rfl, hH⟩
                        replace hH := hB2 _ _ hH
                        replace hH := hB1 _ _ hH
                        refine ⟨_, rfl, fun a hF => J.of hF hH ?_⟩
                        refine J.p (PR.assign rfl) rfl ?_
                        refine J.nil ?_
                        refine EJ.thenN (hK38 ?_)
                        refine CJ.seq fun _ hK39 _ => ?_
                        refine CJ.seq fun _ hK40 _ => ?_
                        refine CJ.region ?_
                        refine J.p (PR.move rfl) rfl ?_
                        refine J.p (PR.lss rfl rfl) rfl ?_
                        refine J.nil ?_
                        refine EJ.thenN (hK40 ?_)
                        refine CJ.condD rfl (fun hc89 => ?_) (fun hc89 => ?_)
                        ·
                          refine CJ.seq fun _ hK41 _ => ?_
                          refine CJ.region ?_
                          refine J.p (PR.assign rfl) rfl ?_
                          refine J.nil ?_
                          refine EJ.thenN (hK41 ?_)
                          refine CJ.ret ?_
                          refine EJ.thenR ?_
                          refine EJ.ret1 rfl (Res.tmp rfl) fun w hH => ?_
                          replace hH := hH.tail
                          replace hH := hH.tail
                          replace hH := hH.tail
                          replace hH := hH.tail
                          replace hH := hH.tail
                          replace hH := hH.tail
                          replace hH := hH.tail
                          replace hH := hH.tail
                          replace hH := hH.tail
                          replace hH := hH.tail
                          replace hH := hH.tail
                          replace hH := hH.tail
                          replace hH := hH.tail
                          first | exact ⟨rfl, hH.below⟩ | exact absurd rfl hc89p | exact absurd rfl hc89 | (exfalso; omega) | (simp at hc89; done)
                        ·
                          refine CJ.skip ?_
                          refine EJ.thenN (hK39 ?_)
                          refine CJ.seq fun _ hK42 _ => ?_
                          refine CJ.seq fun _ hK43 _ => ?_
                          refine CJ.region ?_
                          refine J.p (PR.move rfl) rfl ?_
                          refine J.p (PR.move rfl) rfl ?_
                          refine J.p (PR.neq rfl rfl) rfl ?_
                          refine J.nil ?_
                          refine EJ.thenN (hK43 ?_)
                          refine CJ.condD rfl (fun hc92 => ?_) (fun hc92 => ?_)
                          ·
                            refine CJ.seq fun _ hK44 _ => ?_
                            refine CJ.region ?_
                            refine J.p (PR.assign rfl) rfl ?_
                            refine J.nil ?_
                            refine EJ.thenN (hK44 ?_)
                            refine CJ.ret ?_
                            refine EJ.thenR ?_
                            refine EJ.ret1 rfl (Res.tmp rfl) fun w hH => ?_
                            replace hH := hH.tail
                            replace hH := hH.tail
                            replace hH := hH.tail
                            replace hH := hH.tail
                            replace hH := hH.tail
                            replace hH := hH.tail
                            replace hH := hH.tail
                            replace hH := hH.tail
                            replace hH := hH.tail
                            replace hH := hH.tail
                            replace hH := hH.tail
                            replace hH := hH.tail
                            replace hH := hH.tail
                            first | exact ⟨rfl, hH.below⟩ | exact absurd rfl hc92p | exact absurd rfl hc92 | (exfalso; omega) | (simp at hc92; done)
                          ·
                            refine CJ.skip ?_
                            refine EJ.thenN (hK42 ?_)
                            refine CJ.seq fun _ hK45 _ => ?_
                            refine CJ.region ?_
                            refine J.p (PR.assign rfl) rfl ?_
                            refine J.nil ?_
                            refine EJ.thenN (hK45 ?_)
                            refine CJ.ret ?_
                            refine EJ.ret1 rfl (Res.tmp rfl) fun w hH => ?_
                            replace hH := hH.tail
                            replace hH := hH.tail
                            replace hH := hH.tail
                            replace hH := hH.tail
                            replace hH := hH.tail
                            replace hH := hH.tail
                            replace hH := hH.tail
                            replace hH := hH.tail
                            replace hH := hH.tail
                            replace hH := hH.tail
                            replace hH := hH.tail
                            replace hH := hH.tail
                            replace hH := hH.tail
                            first | exact ⟨rfl, hH.below⟩ | exact absurd rfl hc92p | exact absurd rfl hc92 | (exfalso; omega) | (simp at hc92; done)
end Go.Proofs.Ytodmnjbchegnaaa.G
