/- The walks: what each Go function does, shown from its text. No condition. -/
import Derived.Test.YtodmnjbchegnaaaGMake
import Derived.Test.YtodmnjbchegnaaaProg
import Derived.Test.YtodmnjbchegnaaaWa
import Derived.Test.YtodmnjbchegnaaaWb
import Derived.Test.YtodmnjbchegnaaaWc
import Derived.Test.YtodmnjbchegnaaaWd
import Derived.Test.YtodmnjbchegnaaaWe
import Derived.Test.YtodmnjbchegnaaaWf
import Derived.Test.YtodmnjbchegnaaaWg
import Derived.Test.YtodmnjbchegnaaaWh
import Derived.Test.YtodmnjbchegnaaaWi
import Derived.Test.YtodmnjbchegnaaaWj
import Derived.Test.YtodmnjbchegnaaaWk
import Derived.Test.YtodmnjbchegnaaaWl
set_option linter.unusedVariables false
set_option linter.unusedSimpArgs false
namespace Go.Proofs.Ytodmnjbchegnaaa.G
open Go Go.RowKit
namespace Lf
theorem u42 : Try.prog.underlying 42 = some (TypeDesc.struct #[{ name := "Degrees", type := 26, offset := 0, embedded := false, tag := "", pkgPath := "", byteOffset := 0 }, { name := "Images", type := 40, offset := 1, embedded := false, tag := "", pkgPath := "", byteOffset := 24 }]) := by kernel_rfl
theorem sz42 : Size Try.prog 42 2 := by unfold Size; kernel_rfl
theorem ze42 : Zero Try.prog 42 [.slice none 0 0, .slice none 0 0] := by unfold Zero; kernel_rfl
theorem ag42 : Agg Try.prog 42 2 := ⟨_, u42, rfl, by kernel_rfl⟩
theorem fn30 : Fn Try.prog 30 := ⟨_, Try.func30, by kernel_rfl, rfl⟩
theorem fn31 : Fn Try.prog 31 := ⟨_, Try.func31, by kernel_rfl, rfl⟩
theorem fn32 : Fn Try.prog 32 := ⟨_, Try.func32, by kernel_rfl, rfl⟩
theorem fn33 : Fn Try.prog 33 := ⟨_, Try.func33, by kernel_rfl, rfl⟩
theorem fn34 : Fn Try.prog 34 := ⟨_, Try.func34, by kernel_rfl, rfl⟩
end Lf
open Lf
set_option maxHeartbeats 1000000 in
set_option maxRecDepth 10000 in
theorem lawUnitaryModel_c {B : World} {H0 H : HP} {L : List SA} {w : World} {n : Int}  (hH : Hp B H0 H L w) :
    Calls Try.prog 9 [.int .i64 n].toArray w fun e w' => e = .returned (.bool true) ∧ Below B.heap.size B w' := by
  refine CJ.enter Try.func9 rfl 63 rfl rfl [(0, .int .i64 n)] rfl hH ?_
  clear hH
  have f1 := uniD_len n
  have f2 := uniF_len n
  have f3 : tot (uniF n) = 0 := nils_tot
  have f4 : ∀ i, i < (uniF n).length → (fm (uniF n) i).length ≤ 9223372036854775807 := fun i _ => nils_len i
  refine CJ.seq fun _ hK1 _ => ?_
  refine CJ.region ?_
  refine J.p (PR.assign rfl) rfl ?_
  refine J.nil ?_
  refine EJ.thenN (hK1 ?_)
  refine CJ.seq fun _ hK2 _ => ?_
  refine CJ.region ?_
  refine J.p (PR.move rfl) rfl ?_
  refine J.call fn30 rfl rfl fun w hH => (sUnitaryModel_c  hH).mono ?_
  rintro _ w ⟨qdo13, cdo13, qfo13, cfo13, vso13, rfl, hH⟩
  refine ⟨_, rfl, fun a hF => J.of hF hH ?_⟩
  refine J.p (PR.move rfl) rfl ?_
  refine J.p (PR.extract rfl rfl) rfl ?_
  refine J.p (PR.extract rfl rfl) rfl ?_
  refine J.alloc ze42 rfl fun g3 => ?_
  refine J.storeAll rfl rfl (by first | exact bytesC_one _ | exact intsC_one _ | exact Term.c_one _ | simp [Value.oneCell']) (by simpa [*] using sz42) (by simp [*]) At.z ?_
  refine J.p (PR.assign rfl) rfl ?_
  refine J.nil ?_
  refine EJ.thenN (hK2 ?_)
  refine CJ.seq fun _ hK3 _ => ?_
  refine CJ.region ?_
  refine J.p (PR.move rfl) rfl ?_
  refine J.call fn31 rfl rfl fun w hH => (UnitaryModel_c  hH).mono ?_
  rintro _ w ⟨qdo18, cdo18, qfo18, cfo18, vso18, rfl, hH⟩
  refine ⟨_, rfl, fun a hF => J.of hF hH ?_⟩
  refine J.p (PR.move rfl) rfl ?_
  refine J.p (PR.extract rfl rfl) rfl ?_
  refine J.p (PR.extract rfl rfl) rfl ?_
  refine J.alloc ze42 rfl fun g5 => ?_
  refine J.storeAll rfl rfl (by first | exact bytesC_one _ | exact intsC_one _ | exact Term.c_one _ | simp [Value.oneCell']) (by simpa [*] using sz42) (by simp [*]) At.z ?_
  refine J.p (PR.assign rfl) rfl ?_
  refine J.nil ?_
  refine EJ.thenN (hK3 ?_)
  refine CJ.seq fun _ hK4 _ => ?_
  refine CJ.seq fun _ hK5 _ => ?_
  refine CJ.region ?_
  refine J.p (PR.loadAll rfl At.z (by simpa [*] using ag42)) rfl ?_
  refine J.p (PR.loadAll rfl (.s (.s (.s .z))) (by simpa [*] using ag42)) rfl ?_
  refine J.call fn32 rfl rfl fun w hH => hH.lend (.s .z) fun Hl1 hle1 hA1 hB1 hH => hH.lend (.s .z) fun Hl2 hle2 hA2 hB2 hH => hH.lend (.s (.s .z)) fun Hl3 hle3 hA3 hB3 hH => hH.lend (.s (.s .z)) fun Hl4 hle4 hA4 hB4 hH => (eqAlgebra_c ((((own_ints hA1).le hle2).le hle3).le hle4) (((own_forms (uniF_wf _) hA2).le hle3).le hle4) ((own_ints hA3).le hle4) (own_forms (uniF_wf _) hA4) (by omega) (by omega) (by omega) hH).mono ?_
  rintro _ w ⟨rfl, hH⟩
  replace hH := hB4 _ _ hH
  replace hH := hB3 _ _ hH
  replace hH := hB2 _ _ hH
  replace hH := hB1 _ _ hH
  refine ⟨_, rfl, fun a hF => J.of hF hH ?_⟩
  refine J.p (PR.not rfl) rfl ?_
  refine J.p (PR.move rfl) rfl ?_
  refine J.splitB (jd := 25) rfl (fun hg25 => ?_) (fun hg25 => ?_)
  ·
    try have hg25p := of_decide_eq_true hg25
    refine J.gn rfl rfl rfl hg25 ?_
    refine J.gn rfl rfl rfl hg25 ?_
    refine J.gn rfl rfl rfl hg25 ?_
    refine J.p (PR.pickT rfl hg25 rfl) rfl ?_
    refine J.nil ?_
    refine EJ.thenN (hK5 ?_)
    refine CJ.condT rfl ?_
    refine CJ.seq fun _ hK6 _ => ?_
    refine CJ.region ?_
    refine J.p (PR.assign rfl) rfl ?_
    refine J.nil ?_
    refine EJ.thenN (hK6 ?_)
    refine CJ.ret ?_
    refine EJ.thenR ?_
    refine EJ.ret1 rfl (Res.tmp rfl) fun w hH => ?_
    replace hH := hH.tail
    replace hH := hH.tail
    replace hH := hH.tail
    replace hH := hH.tail
    replace hH := hH.tail
    replace hH := hH.tail
    first | exact ⟨rfl, hH.below⟩ | exact absurd rfl hg25p | exact absurd rfl hg25 | (exfalso; omega) | (simp at hg25; done)
  ·
    try have hg25p := of_decide_eq_false hg25
    refine J.gy (PR.move rfl) rfl rfl rfl hg25 ?_
    refine J.gy (PR.move rfl) rfl rfl rfl hg25 ?_
    refine J.gy (PR.neq rfl rfl) rfl rfl rfl hg25 ?_
    refine J.p (PR.pickF rfl hg25 rfl) rfl ?_
    refine J.nil ?_
    refine EJ.thenN (hK5 ?_)
    refine CJ.condD rfl (fun hc29 => ?_) (fun hc29 => ?_)
    ·
      refine CJ.seq fun _ hK7 _ => ?_
      refine CJ.region ?_
      refine J.p (PR.assign rfl) rfl ?_
      refine J.nil ?_
      refine EJ.thenN (hK7 ?_)
      refine CJ.ret ?_
      refine EJ.thenR ?_
      refine EJ.ret1 rfl (Res.tmp rfl) fun w hH => ?_
      replace hH := hH.tail
      replace hH := hH.tail
      replace hH := hH.tail
      replace hH := hH.tail
      replace hH := hH.tail
      replace hH := hH.tail
      first | exact ⟨rfl, hH.below⟩ | exact absurd rfl hc29p | exact absurd rfl hc29 | (exfalso; omega) | (simp at hc29; done)
    ·
      refine CJ.skip ?_
      refine EJ.thenN (hK4 ?_)
      refine CJ.seq fun _ hK8 _ => ?_
      refine CJ.region ?_
      refine J.p (PR.assign rfl) rfl ?_
      refine J.nil ?_
      refine EJ.thenN (hK8 ?_)
      refine CJ.seq fun _ hK9 _ => ?_
      refine CJ.region ?_
      refine J.p (PR.loadAll rfl (.s (.s (.s (.s .z)))) (by simpa [*] using ag42)) rfl ?_
      refine J.p (PR.move rfl) rfl ?_
      refine J.call fn33 rfl rfl fun w hH => (markAlgebra_c (by omega) (by omega) ((hH.front (.s .z)).front (.s .z))).mono ?_
      rintro _ w ⟨rfl, hH⟩
      refine ⟨_, rfl, fun a hF => J.of hF hH ?_⟩
      refine J.p (PR.assign rfl) rfl ?_
      refine J.nil ?_
      refine EJ.thenN (hK9 ?_)
      refine CJ.seq fun _ hK10 _ => ?_
      refine CJ.region ?_
      refine J.p (PR.assign rfl) rfl ?_
      refine J.nil ?_
      refine EJ.thenN (hK10 ?_)
      refine CJ.seq fun _ hK11 _ => ?_
      refine CJ.region ?_
      refine J.p (PR.loadAll rfl (.s (.s (.s (.s .z)))) (by simpa [*] using ag42)) rfl ?_
      refine J.p (PR.move rfl) rfl ?_
      refine J.call fn34 rfl rfl fun w hH => hH.lend .z fun Hl1 hle1 hA1 hB1 hH => hH.lend .z fun Hl2 hle2 hA2 hB2 hH => (heldAlgebra_c ((own_mints hA1).le hle2) (own_mforms (by omega) hA2) (by omega) (by omega) hH).mono ?_
      rintro _ w ⟨rfl, hH⟩
      replace hH := hB2 _ _ hH
      replace hH := hB1 _ _ hH
      refine ⟨_, rfl, fun a hF => J.of hF hH ?_⟩
      refine J.p (PR.assign rfl) rfl ?_
      refine J.nil ?_
      refine EJ.thenN (hK11 ?_)
      refine CJ.seq fun _ hK12 _ => ?_
      refine CJ.seq fun _ hK13 _ => ?_
      refine CJ.region ?_
      refine J.p (PR.move rfl) rfl ?_
      refine J.p (PR.lss rfl rfl) rfl ?_
      refine J.nil ?_
      refine EJ.thenN (hK13 ?_)
      refine CJ.condD rfl (fun hc37 => ?_) (fun hc37 => ?_)
      ·
        refine CJ.seq fun _ hK14 _ => ?_
        refine CJ.region ?_
        refine J.p (PR.assign rfl) rfl ?_
        refine J.nil ?_
        refine EJ.thenN (hK14 ?_)
        refine CJ.ret ?_
        refine EJ.thenR ?_
        refine EJ.ret1 rfl (Res.tmp rfl) fun w hH => ?_
        replace hH := hH.tail
        replace hH := hH.tail
        replace hH := hH.tail
        replace hH := hH.tail
        replace hH := hH.tail
        replace hH := hH.tail
        first | exact ⟨rfl, hH.below⟩ | exact absurd rfl hc37p | exact absurd rfl hc37 | (exfalso; omega) | (simp at hc37; done)
      ·
        refine CJ.skip ?_
        refine EJ.thenN (hK12 ?_)
        refine CJ.seq fun _ hK15 _ => ?_
        refine CJ.seq fun _ hK16 _ => ?_
        refine CJ.region ?_
        refine J.p (PR.move rfl) rfl ?_
        refine J.p (PR.move rfl) rfl ?_
        refine J.p (PR.neq rfl rfl) rfl ?_
        refine J.nil ?_
        refine EJ.thenN (hK16 ?_)
        refine CJ.condD rfl (fun hc40 => ?_) (fun hc40 => ?_)
        ·
          refine CJ.seq fun _ hK17 _ => ?_
          refine CJ.region ?_
          refine J.p (PR.assign rfl) rfl ?_
          refine J.nil ?_
          refine EJ.thenN (hK17 ?_)
          refine CJ.ret ?_
          refine EJ.thenR ?_
          refine EJ.ret1 rfl (Res.tmp rfl) fun w hH => ?_
          replace hH := hH.tail
          replace hH := hH.tail
          replace hH := hH.tail
          replace hH := hH.tail
          replace hH := hH.tail
          replace hH := hH.tail
          first | exact ⟨rfl, hH.below⟩ | exact absurd rfl hc40p | exact absurd rfl hc40 | (exfalso; omega) | (simp at hc40; done)
        ·
          refine CJ.skip ?_
          refine EJ.thenN (hK15 ?_)
          refine CJ.seq fun _ hK18 _ => ?_
          refine CJ.region ?_
          refine J.p (PR.move rfl) rfl ?_
          refine J.call fn31 rfl rfl fun w hH => (UnitaryModel_c  hH).mono ?_
          rintro _ w ⟨qdo43, cdo43, qfo43, cfo43, vso43, rfl, hH⟩
          refine ⟨_, rfl, fun a hF => J.of hF hH ?_⟩
          refine J.p (PR.move rfl) rfl ?_
          refine J.p (PR.extract rfl rfl) rfl ?_
          refine J.p (PR.extract rfl rfl) rfl ?_
          refine J.alloc ze42 rfl fun g9 => ?_
          refine J.storeAll rfl rfl (by first | exact bytesC_one _ | exact intsC_one _ | exact Term.c_one _ | simp [Value.oneCell']) (by simpa [*] using sz42) (by simp [*]) At.z ?_
          refine J.p (PR.assign rfl) rfl ?_
          refine J.nil ?_
          refine EJ.thenN (hK18 ?_)
          refine CJ.seq fun _ hK19 _ => ?_
          refine CJ.seq fun _ hK20 _ => ?_
          refine CJ.region ?_
          refine J.p (PR.loadAll rfl At.z (by simpa [*] using ag42)) rfl ?_
          refine J.p (PR.loadAll rfl (.s (.s (.s (.s (.s (.s (.s (.s .z)))))))) (by simpa [*] using ag42)) rfl ?_
          refine J.call fn32 rfl rfl fun w hH => hH.lend (.s .z) fun Hl1 hle1 hA1 hB1 hH => hH.lend (.s .z) fun Hl2 hle2 hA2 hB2 hH => hH.lend (.s (.s (.s .z))) fun Hl3 hle3 hA3 hB3 hH => hH.lend (.s (.s (.s .z))) fun Hl4 hle4 hA4 hB4 hH => (eqAlgebra_c ((((own_ints hA1).le hle2).le hle3).le hle4) (((own_forms (uniF_wf _) hA2).le hle3).le hle4) ((own_ints hA3).le hle4) (own_forms (uniF_wf _) hA4) (by omega) (by omega) (by omega) hH).mono ?_
          rintro _ w ⟨rfl, hH⟩
          replace hH := hB4 _ _ hH
          replace hH := hB3 _ _ hH
          replace hH := hB2 _ _ hH
          replace hH := hB1 _ _ hH
          refine ⟨_, rfl, fun a hF => J.of hF hH ?_⟩
          refine J.p (PR.not rfl) rfl ?_
          refine J.p (PR.move rfl) rfl ?_
          refine J.splitB (jd := 50) rfl (fun hg50 => ?_) (fun hg50 => ?_)
          ·
            try have hg50p := of_decide_eq_true hg50
            refine J.gn rfl rfl rfl hg50 ?_
            refine J.gn rfl rfl rfl hg50 ?_
            refine J.gn rfl rfl rfl hg50 ?_
            refine J.p (PR.pickT rfl hg50 rfl) rfl ?_
            refine J.nil ?_
            refine EJ.thenN (hK20 ?_)
            refine CJ.condT rfl ?_
            refine CJ.seq fun _ hK21 _ => ?_
            refine CJ.region ?_
            refine J.p (PR.assign rfl) rfl ?_
            refine J.nil ?_
            refine EJ.thenN (hK21 ?_)
            refine CJ.ret ?_
            refine EJ.thenR ?_
            refine EJ.ret1 rfl (Res.tmp rfl) fun w hH => ?_
            replace hH := hH.tail
            replace hH := hH.tail
            replace hH := hH.tail
            replace hH := hH.tail
            replace hH := hH.tail
            replace hH := hH.tail
            replace hH := hH.tail
            replace hH := hH.tail
            replace hH := hH.tail
            first | exact ⟨rfl, hH.below⟩ | exact absurd rfl hg50p | exact absurd rfl hg50 | (exfalso; omega) | (simp at hg50; done)
          ·
            try have hg50p := of_decide_eq_false hg50
            refine J.gy (PR.move rfl) rfl rfl rfl hg50 ?_
            refine J.gy (PR.move rfl) rfl rfl rfl hg50 ?_
            refine J.gy (PR.neq rfl rfl) rfl rfl rfl hg50 ?_
            refine J.p (PR.pickF rfl hg50 rfl) rfl ?_
            refine J.nil ?_
            refine EJ.thenN (hK20 ?_)
            refine CJ.condD rfl (fun hc54 => ?_) (fun hc54 => ?_)
            ·
              refine CJ.seq fun _ hK22 _ => ?_
              refine CJ.region ?_
              refine J.p (PR.assign rfl) rfl ?_
              refine J.nil ?_
              refine EJ.thenN (hK22 ?_)
              refine CJ.ret ?_
              refine EJ.thenR ?_
              refine EJ.ret1 rfl (Res.tmp rfl) fun w hH => ?_
              replace hH := hH.tail
              replace hH := hH.tail
              replace hH := hH.tail
              replace hH := hH.tail
              replace hH := hH.tail
              replace hH := hH.tail
              replace hH := hH.tail
              replace hH := hH.tail
              replace hH := hH.tail
              first | exact ⟨rfl, hH.below⟩ | exact absurd rfl hc54p | exact absurd rfl hc54 | (exfalso; omega) | (simp at hc54; done)
            ·
              refine CJ.skip ?_
              refine EJ.thenN (hK19 ?_)
              refine CJ.seq fun _ hK23 _ => ?_
              refine CJ.region ?_
              refine J.p (PR.assign rfl) rfl ?_
              refine J.nil ?_
              refine EJ.thenN (hK23 ?_)
              refine CJ.seq fun _ hK24 _ => ?_
              refine CJ.region ?_
              refine J.p (PR.loadAll rfl (.s (.s (.s (.s (.s (.s (.s .z))))))) (by simpa [*] using ag42)) rfl ?_
              refine J.p (PR.move rfl) rfl ?_
              refine J.call fn34 rfl rfl fun w hH => hH.lend (.s (.s (.s (.s (.s .z))))) fun Hl1 hle1 hA1 hB1 hH => hH.lend (.s (.s (.s (.s (.s .z))))) fun Hl2 hle2 hA2 hB2 hH => (heldAlgebra_c ((own_mints hA1).le hle2) (own_mforms (by omega) hA2) (by omega) (by omega) hH).mono ?_
              rintro _ w ⟨rfl, hH⟩
              replace hH := hB2 _ _ hH
              replace hH := hB1 _ _ hH
              refine ⟨_, rfl, fun a hF => J.of hF hH ?_⟩
              refine J.p (PR.assign rfl) rfl ?_
              refine J.nil ?_
              refine EJ.thenN (hK24 ?_)
              refine CJ.seq fun _ hK25 _ => ?_
              refine CJ.seq fun _ hK26 _ => ?_
              refine CJ.region ?_
              refine J.p (PR.move rfl) rfl ?_
              refine J.p (PR.lss rfl rfl) rfl ?_
              refine J.nil ?_
              refine EJ.thenN (hK26 ?_)
              refine CJ.condD rfl (fun hc59 => ?_) (fun hc59 => ?_)
              ·
                refine CJ.seq fun _ hK27 _ => ?_
                refine CJ.region ?_
                refine J.p (PR.assign rfl) rfl ?_
                refine J.nil ?_
                refine EJ.thenN (hK27 ?_)
                refine CJ.ret ?_
                refine EJ.thenR ?_
                refine EJ.ret1 rfl (Res.tmp rfl) fun w hH => ?_
                replace hH := hH.tail
                replace hH := hH.tail
                replace hH := hH.tail
                replace hH := hH.tail
                replace hH := hH.tail
                replace hH := hH.tail
                replace hH := hH.tail
                replace hH := hH.tail
                replace hH := hH.tail
                first | exact ⟨rfl, hH.below⟩ | exact absurd rfl hc59p | exact absurd rfl hc59 | (exfalso; omega) | (simp at hc59; done)
              ·
                refine CJ.skip ?_
                refine EJ.thenN (hK25 ?_)
                refine CJ.seq fun _ hK28 _ => ?_
                refine CJ.seq fun _ hK29 _ => ?_
                refine CJ.region ?_
                refine J.p (PR.move rfl) rfl ?_
                refine J.p (PR.move rfl) rfl ?_
                refine J.p (PR.neq rfl rfl) rfl ?_
                refine J.nil ?_
                refine EJ.thenN (hK29 ?_)
                refine CJ.condD rfl (fun hc62 => ?_) (fun hc62 => ?_)
                ·
                  refine CJ.seq fun _ hK30 _ => ?_
                  refine CJ.region ?_
                  refine J.p (PR.assign rfl) rfl ?_
                  refine J.nil ?_
                  refine EJ.thenN (hK30 ?_)
                  refine CJ.ret ?_
                  refine EJ.thenR ?_
                  refine EJ.ret1 rfl (Res.tmp rfl) fun w hH => ?_
                  replace hH := hH.tail
                  replace hH := hH.tail
                  replace hH := hH.tail
                  replace hH := hH.tail
                  replace hH := hH.tail
                  replace hH := hH.tail
                  replace hH := hH.tail
                  replace hH := hH.tail
                  replace hH := hH.tail
                  first | exact ⟨rfl, hH.below⟩ | exact absurd rfl hc62p | exact absurd rfl hc62 | (exfalso; omega) | (simp at hc62; done)
                ·
                  refine CJ.skip ?_
                  refine EJ.thenN (hK28 ?_)
                  refine CJ.seq fun _ hK31 _ => ?_
                  refine CJ.region ?_
                  refine J.p (PR.assign rfl) rfl ?_
                  refine J.nil ?_
                  refine EJ.thenN (hK31 ?_)
                  refine CJ.ret ?_
                  refine EJ.ret1 rfl (Res.tmp rfl) fun w hH => ?_
                  replace hH := hH.tail
                  replace hH := hH.tail
                  replace hH := hH.tail
                  replace hH := hH.tail
                  replace hH := hH.tail
                  replace hH := hH.tail
                  replace hH := hH.tail
                  replace hH := hH.tail
                  replace hH := hH.tail
                  first | exact ⟨rfl, hH.below⟩ | exact absurd rfl hc62p | exact absurd rfl hc62 | (exfalso; omega) | (simp at hc62; done)
end Go.Proofs.Ytodmnjbchegnaaa.G
