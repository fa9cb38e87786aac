/- FormText on both sides. No condition. -/
import Derived.Test.YtbjhllmcnfncdaaDoorGStr
import Derived.Test.YtbjhllmcnfncdaaDoorProg
import Derived.Test.YtbjhllmcnfncdaaDoorWa
import Derived.Test.YtbjhllmcnfncdaaDoorWb
import Derived.Test.YtbjhllmcnfncdaaDoorWc
import Derived.Test.YtbjhllmcnfncdaaDoorWd
import Derived.Test.YtbjhllmcnfncdaaDoorWe
import Derived.Test.YtbjhllmcnfncdaaDoorSa
import Derived.Test.YtbjhllmcnfncdaaDoorSb
import Derived.Test.YtbjhllmcnfncdaaDoorShelf
import Derived.Lib.AppendIntMem
import Derived.Test.YtbjhllmcnfncdaaDoorSc
import Derived.Test.YtbjhllmcnfncdaaDoorSd
set_option linter.unusedVariables false
set_option linter.unusedSimpArgs false
namespace Go.Proofs.YtbjhllmcnfncdaaDoor.G
open Go Go.RowKit
namespace Lv
theorem u22 : Tryd.prog.underlying 22 = some (TypeDesc.slice 2) := by kernel_rfl
theorem u25 : Tryd.prog.underlying 25 = some (TypeDesc.struct #[{ name := "Terms", type := 23, offset := 0, embedded := false, tag := "", pkgPath := "", byteOffset := 0 }]) := by kernel_rfl
theorem u32 : Tryd.prog.underlying 32 = some (TypeDesc.struct #[{ name := "Terms", type := 30, offset := 0, embedded := false, tag := "", pkgPath := "", byteOffset := 0 }]) := by kernel_rfl
theorem sz32 : Size Tryd.prog 32 1 := by unfold Size; kernel_rfl
theorem ze32 : Zero Tryd.prog 32 [.slice none 0 0] := by unfold Zero; kernel_rfl
theorem ag25 : Agg Tryd.prog 25 1 := ⟨_, u25, rfl, by kernel_rfl⟩
theorem ag32 : Agg Tryd.prog 32 1 := ⟨_, u32, rfl, by kernel_rfl⟩
theorem fn10 : Fn Tryd.prog 10 := ⟨_, Tryd.func10, by kernel_rfl, rfl⟩
theorem fn11 : Fn Tryd.prog 11 := ⟨_, Tryd.func11, by kernel_rfl, rfl⟩
theorem fn5 : Fn Tryd.prog 5 := ⟨_, Tryd.func5, by kernel_rfl, rfl⟩
theorem fn6 : Fn Tryd.prog 6 := ⟨_, Tryd.func6, by kernel_rfl, rfl⟩
theorem fn7 : Fn Tryd.prog 7 := ⟨_, Tryd.func7, by kernel_rfl, rfl⟩
theorem fn8 : Fn Tryd.prog 8 := ⟨_, Tryd.func8, by kernel_rfl, rfl⟩
theorem fn9 : Fn Tryd.prog 9 := ⟨_, Tryd.func9, by kernel_rfl, rfl⟩
theorem foll0 : Tryd.prog.follows .mixedOrders = true := by kernel_rfl
end Lv
open Lv
set_option maxHeartbeats 2000000 in
set_option maxRecDepth 10000 in
theorem lawFormText_c {B : World} {H0 H : HP} {L : List SA} {w : World} {qds : Option Addr} {cds : Nat} {ds : List Int} {qts : Option Addr} {cts : Nat} {ts : List Term}  (hds : Ints H qds ds) (hts : Terms H qts ts) (hl : ts.length ≤ 9223372036854775807) (hT : TabOk Tryd.prog nmT H) (hH : Hp B H0 H L w) :
    Calls Tryd.prog 3 [.slice qds ds.length cds, .agg [.slice qts ts.length cts].toArray].toArray w fun e w' => e = .returned (.bool true) ∧ Below B.heap.size B w' := by
  refine CJ.enter Tryd.func3 rfl 56 rfl rfl [(0, .slice qds ds.length cds), (1, .agg [.slice qts ts.length cts].toArray)] rfl hH ?_
  clear hH
  refine CJ.seq fun _ hK1 _ => ?_
  refine CJ.region ?_
  refine J.box rfl rfl rfl fun g3 => ?_
  refine J.p (PR.assign rfl) rfl ?_
  refine J.nil ?_
  refine EJ.thenN (hK1 ?_)
  refine CJ.seq fun _ hK2 _ => ?_
  refine CJ.seq fun _ hK3 _ => ?_
  refine CJ.region ?_
  refine J.p (PR.move rfl) rfl ?_
  refine J.p (PR.lenSlice u22 rfl rfl) rfl ?_
  refine J.p (PR.gtr rfl rfl) rfl ?_
  refine J.nil ?_
  refine EJ.thenN (hK3 ?_)
  refine CJ.condD rfl (fun hc14 => ?_) (fun hc14 => ?_)
  ·
    refine CJ.seq fun _ hK4 _ => ?_
    refine CJ.region ?_
    refine J.p (PR.assign rfl) rfl ?_
    refine J.nil ?_
    refine EJ.thenN (hK4 ?_)
    refine CJ.ret ?_
    refine EJ.thenR ?_
    refine EJ.ret1 rfl (Res.tmp rfl) fun w hH => ?_
    replace hH := hH.tail
    first | exact ⟨rfl, hH.below⟩ | exact absurd rfl hc14p | exact absurd rfl hc14 | (exfalso; omega) | (simp at hc14; done)
  ·
    refine CJ.skip ?_
    refine EJ.thenN (hK2 ?_)
    refine CJ.seq fun _ hK5 _ => ?_
    refine CJ.region ?_
    refine J.p (PR.assign rfl) rfl ?_
    refine J.nil ?_
    refine EJ.thenN (hK5 ?_)
    refine CJ.seq fun _ hK6 _ => ?_
    refine CJ.region ?_
    refine J.p (PR.loadAll rfl At.z (by simpa [*] using ag25)) rfl ?_
    refine J.p (PR.move rfl) rfl ?_
    refine J.call fn5 rfl rfl fun w hH => (szForm_c hts (by omega) hH).mono ?_
    rintro _ w ⟨rfl, hH⟩
    refine ⟨_, rfl, fun a hF => J.of hF hH ?_⟩
    refine J.p (PR.assign rfl) rfl ?_
    refine J.nil ?_
    refine EJ.thenN (hK6 ?_)
    refine CJ.seq fun _ hK7 _ => ?_
    refine CJ.seq fun _ hK8 _ => ?_
    refine CJ.region ?_
    refine J.p (PR.move rfl) rfl ?_
    refine J.p (PR.lss rfl rfl) rfl ?_
    refine J.nil ?_
    refine EJ.thenN (hK8 ?_)
    refine CJ.condD rfl (fun hc19 => ?_) (fun hc19 => ?_)
    ·
      refine CJ.seq fun _ hK9 _ => ?_
      refine CJ.region ?_
      refine J.p (PR.assign rfl) rfl ?_
      refine J.nil ?_
      refine EJ.thenN (hK9 ?_)
      refine CJ.ret ?_
      refine EJ.thenR ?_
      refine EJ.ret1 rfl (Res.tmp rfl) fun w hH => ?_
      replace hH := hH.tail
      first | exact ⟨rfl, hH.below⟩ | exact absurd rfl hc19p | exact absurd rfl hc19 | (exfalso; omega) | (simp at hc19; done)
    ·
      refine CJ.skip ?_
      refine EJ.thenN (hK7 ?_)
      refine CJ.seq fun _ hK10 _ => ?_
      refine CJ.head [[], [0], []] (by kernel_rfl) ?_
      refine HJ.op (fun gh => PR.move rfl) ?_
      refine HJ.callN fn7 (fun gh => rfl) (fun w X hH => toInt64S_c hds (by omega) hH) ?_
      refine HJ.op (fun gh => PR.loadAll rfl At.z (by simpa [*] using ag25)) ?_
      refine HJ.close 3 2 foll0 (by kernel_rfl) rfl rfl fun gh => ?_
      refine J.conv (us' := (21, _) :: (22, _) :: (23, _) :: _) (L' := _ :: _) rfl rfl ?_
      refine J.call fn8 rfl rfl fun w hH => (toForm_c hts (by omega) hH).mono ?_
      rintro _ w ⟨qo24, co24, rfl, hH⟩
      refine ⟨_, rfl, fun a hF => J.of hF hH ?_⟩
      refine J.call fn6 rfl rfl fun w hH => hH.lend (.s .z) fun Hl1 hle1 hA1 hB1 hH => hH.lend .z fun Hl2 hle2 hA2 hB2 hH => (sFormText_c ((own_ints hA1).le hle2) (own_terms hts.wfs hA2) (by omega) (by omega) hH).mono ?_
      rintro _ w ⟨rfl, hH⟩
      replace hH := hB2 _ _ hH
      replace hH := hB1 _ _ hH
      refine ⟨_, rfl, fun a hF => J.of hF hH ?_⟩
      refine J.nil ?_
      refine EJ.still ?_
      refine JS.op (PR.move rfl) rfl ?_
      refine JS.op (PR.extract rfl rfl) rfl ?_
      refine JS.op (PR.extract rfl rfl) rfl ?_
      refine JS.op (PR.assign rfl) rfl ?_
      refine JS.op (PR.assign rfl) rfl ?_
      refine JS.nil ?_
      refine EJ.thenN (hK10 ?_)
      refine CJ.seq fun _ hK11 _ => ?_
      refine CJ.region ?_
      refine J.p (PR.move rfl) rfl ?_
      refine J.call fn7 rfl rfl fun w hH => (toInt64S_c hds (by omega) hH).mono ?_
      rintro _ w ⟨qo29, co29, rfl, hH⟩
      refine ⟨_, rfl, fun a hF => J.of hF hH ?_⟩
      refine J.p (PR.assign rfl) rfl ?_
      refine J.nil ?_
      refine EJ.thenN (hK11 ?_)
      refine CJ.seq fun _ hK12 _ => ?_
      refine CJ.region ?_
      refine J.p (PR.loadAll rfl (.s (.s (.s .z))) (by simpa [*] using ag25)) rfl ?_
      refine J.call fn8 rfl rfl fun w hH => (toForm_c hts (by omega) hH).mono ?_
      rintro _ w ⟨qo31, co31, rfl, hH⟩
      refine ⟨_, rfl, fun a hF => J.of hF hH ?_⟩
      refine J.alloc ze32 rfl fun g9 => ?_
      refine J.storeAll rfl rfl (by first | exact bytesC_one _ | exact intsC_one _ | exact Term.c_one _ | simp [Value.oneCell']) (by simpa [*] using sz32) (by simp [*]) At.z ?_
      refine J.nil ?_
      refine EJ.thenN (hK12 ?_)
      refine CJ.seq fun _ hK13 _ => ?_
      refine CJ.region ?_
      refine J.p (PR.move rfl) rfl ?_
      refine J.p (PR.loadAll rfl At.z (by simpa [*] using ag32)) rfl ?_
      refine J.call fn9 rfl rfl fun w hH => hH.lend (.s (.s .z)) fun Hl1 hle1 hA1 hB1 hH => hH.lend (.s .z) fun Hl2 hle2 hA2 hB2 hH => (FormText_c ((own_ints hA1).le hle2) (own_terms hts.wfs hA2) (by omega) (by omega) ((hT.le hle1).le hle2) hH).mono ?_
      rintro _ w ⟨rfl, hH⟩
      replace hH := hB2 _ _ hH
      replace hH := hB1 _ _ hH
      refine ⟨_, rfl, fun a hF => J.of hF hH ?_⟩
      refine J.p (PR.move rfl) rfl ?_
      refine J.p (PR.extract rfl rfl) rfl ?_
      refine J.p (PR.extract rfl rfl) rfl ?_
      refine J.p (PR.assign rfl) rfl ?_
      refine J.p (PR.assign rfl) rfl ?_
      refine J.nil ?_
      refine EJ.thenN (hK13 ?_)
      refine CJ.seq fun _ hK14 _ => ?_
      refine CJ.seq fun _ hK15 _ => ?_
      refine CJ.region ?_
      refine J.p (PR.move rfl) rfl ?_
      refine J.p (PR.move rfl) rfl ?_
      refine J.p (PR.strNeq rfl rfl) rfl ?_
      refine J.p (PR.move rfl) rfl ?_
      refine J.splitB (jd := 41) rfl (fun hg41 => ?_) (fun hg41 => ?_)
      ·
        try have hg41p := of_decide_eq_true hg41
        refine J.gn rfl rfl rfl hg41 ?_
        refine J.gn rfl rfl rfl hg41 ?_
        refine J.gn rfl rfl rfl hg41 ?_
        refine J.p (PR.pickT rfl hg41 rfl) rfl ?_
        refine J.nil ?_
        refine EJ.thenN (hK15 ?_)
        refine CJ.condT rfl ?_
        refine CJ.seq fun _ hK16 _ => ?_
        refine CJ.region ?_
        refine J.p (PR.assign rfl) rfl ?_
        refine J.nil ?_
        refine EJ.thenN (hK16 ?_)
        refine CJ.ret ?_
        refine EJ.thenR ?_
        refine EJ.ret1 rfl (Res.tmp rfl) fun w hH => ?_
        replace hH := hH.tail
        replace hH := hH.tail
        replace hH := hH.tail
        replace hH := hH.tail
        replace hH := hH.tail
        replace hH := hH.tail
        first | exact ⟨rfl, hH.below⟩ | exact absurd rfl hg41p | exact absurd rfl hg41 | (exfalso; omega) | (simp at hg41; done)
      ·
        try have hg41p := of_decide_eq_false hg41
        refine J.gy (PR.move rfl) rfl rfl rfl hg41 ?_
        refine J.gy (PR.move rfl) rfl rfl rfl hg41 ?_
        refine J.gy (PR.neq rfl rfl) rfl rfl rfl hg41 ?_
        refine J.p (PR.pickF rfl hg41 rfl) rfl ?_
        refine J.nil ?_
        refine EJ.thenN (hK15 ?_)
        refine CJ.condD rfl (fun hc45 => ?_) (fun hc45 => ?_)
        ·
          refine CJ.seq fun _ hK17 _ => ?_
          refine CJ.region ?_
          refine J.p (PR.assign rfl) rfl ?_
          refine J.nil ?_
          refine EJ.thenN (hK17 ?_)
          refine CJ.ret ?_
          refine EJ.thenR ?_
          refine EJ.ret1 rfl (Res.tmp rfl) fun w hH => ?_
          replace hH := hH.tail
          replace hH := hH.tail
          replace hH := hH.tail
          replace hH := hH.tail
          replace hH := hH.tail
          replace hH := hH.tail
          first | exact ⟨rfl, hH.below⟩ | exact absurd rfl hc45p | exact absurd rfl hc45 | (exfalso; omega) | (simp at hc45; done)
        ·
          refine CJ.skip ?_
          refine EJ.thenN (hK14 ?_)
          refine CJ.seq fun _ hK18 _ => ?_
          refine CJ.seq fun _ hK19 _ => ?_
          refine CJ.region ?_
          refine J.p (PR.move rfl) rfl ?_
          refine J.p (PR.move rfl) rfl ?_
          refine J.call fn7 rfl rfl fun w hH => (toInt64S_c hds (by omega) hH).mono ?_
          rintro _ w ⟨qo48, co48, rfl, hH⟩
          refine ⟨_, rfl, fun a hF => J.of hF hH ?_⟩
          refine J.call fn10 rfl rfl fun w hH => hH.lend (.s .z) fun Hl1 hle1 hA1 hB1 hH => hH.lend .z fun Hl2 hle2 hA2 hB2 hH => (eqInt64S_c ((own_ints hA1).le hle2) (own_ints hA2) (by omega) hH).mono ?_
          rintro _ w ⟨rfl, hH⟩
          replace hH := hB2 _ _ hH
          replace hH := hB1 _ _ hH
          refine ⟨_, rfl, fun a hF => J.of hF hH ?_⟩
          refine J.p (PR.not rfl) rfl ?_
          refine J.nil ?_
          refine EJ.thenN (hK19 ?_)
          refine CJ.cond rfl (fun hc50 => ?_) (fun hc50 => ?_)
          ·
            refine CJ.seq fun _ hK20 _ => ?_
            refine CJ.region ?_
            refine J.p (PR.assign rfl) rfl ?_
            refine J.nil ?_
            refine EJ.thenN (hK20 ?_)
            refine CJ.ret ?_
            refine EJ.thenR ?_
            refine EJ.ret1 rfl (Res.tmp rfl) fun w hH => ?_
            replace hH := hH.tail
            replace hH := hH.tail
            replace hH := hH.tail
            replace hH := hH.tail
            replace hH := hH.tail
            replace hH := hH.tail
            replace hH := hH.tail
            first | exact ⟨rfl, hH.below⟩ | exact absurd rfl hc50p | exact absurd rfl hc50 | (exfalso; omega) | (simp at hc50; done)
          ·
            refine CJ.skip ?_
            refine EJ.thenN (hK18 ?_)
            refine CJ.seq fun _ hK21 _ => ?_
            refine CJ.seq fun _ hK22 _ => ?_
            refine CJ.head [[], [], [1]] (by kernel_rfl) ?_
            refine HJ.op (fun gh => PR.loadAll rfl (.s (.s (.s .z))) (by simpa [*] using ag32)) ?_
            refine HJ.op (fun gh => PR.loadAll rfl (.s (.s (.s (.s (.s (.s .z)))))) (by simpa [*] using ag25)) ?_
            refine HJ.callN fn8 (fun gh => rfl) (fun w X hH => toForm_c hts (by omega) hH) ?_
            refine HJ.close 3 1 foll0 (by kernel_rfl) rfl rfl fun gh => ?_
            refine J.conv (us' := (51, _) :: (52, _) :: (53, _) :: _) (L' := _ :: _) rfl rfl ?_
            refine J.call fn11 rfl rfl fun w hH => hH.lend (.s (.s (.s .z))) fun Hl1 hle1 hA1 hB1 hH => hH.lend .z fun Hl2 hle2 hA2 hB2 hH => (eqForm_c ((own_terms hts.wfs hA1).le hle2) (own_terms hts.wfs hA2) (by omega) hH).mono ?_
            rintro _ w ⟨rfl, hH⟩
            replace hH := hB2 _ _ hH
            replace hH := hB1 _ _ hH
            refine ⟨_, rfl, fun a hF => J.of hF hH ?_⟩
            refine J.nil ?_
            refine EJ.still ?_
            refine JS.op (PR.not rfl) rfl ?_
            refine JS.nil ?_
            refine EJ.thenN (hK22 ?_)
            refine CJ.cond rfl (fun hc55 => ?_) (fun hc55 => ?_)
            ·
              refine CJ.seq fun _ hK23 _ => ?_
              refine CJ.region ?_
              refine J.p (PR.assign rfl) rfl ?_
              refine J.nil ?_
              refine EJ.thenN (hK23 ?_)
              refine CJ.ret ?_
              refine EJ.thenR ?_
              refine EJ.ret1 rfl (Res.tmp rfl) fun w hH => ?_
              replace hH := hH.tail
              replace hH := hH.tail
              replace hH := hH.tail
              replace hH := hH.tail
              replace hH := hH.tail
              replace hH := hH.tail
              replace hH := hH.tail
              replace hH := hH.tail
              first | exact ⟨rfl, hH.below⟩ | exact absurd rfl hc55p | exact absurd rfl hc55 | (exfalso; omega) | (simp at hc55; done)
            ·
              refine CJ.skip ?_
              refine EJ.thenN (hK21 ?_)
              refine CJ.seq fun _ hK24 _ => ?_
              refine CJ.region ?_
              refine J.p (PR.assign rfl) rfl ?_
              refine J.nil ?_
              refine EJ.thenN (hK24 ?_)
              refine CJ.ret ?_
              refine EJ.ret1 rfl (Res.tmp rfl) fun w hH => ?_
              replace hH := hH.tail
              replace hH := hH.tail
              replace hH := hH.tail
              replace hH := hH.tail
              replace hH := hH.tail
              replace hH := hH.tail
              replace hH := hH.tail
              replace hH := hH.tail
              first | exact ⟨rfl, hH.below⟩ | exact absurd rfl hc55p | exact absurd rfl hc55 | (exfalso; omega) | (simp at hc55; done)
end Go.Proofs.YtbjhllmcnfncdaaDoor.G
