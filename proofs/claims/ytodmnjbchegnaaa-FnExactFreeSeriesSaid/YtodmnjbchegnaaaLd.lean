/- The walks: what each Go function does, shown from its text. No condition. -/
import Derived.Test.YtodmnjbchegnaaaGLend
import Derived.Test.YtodmnjbchegnaaaProg
import Derived.Test.YtodmnjbchegnaaaWa
import Derived.Test.YtodmnjbchegnaaaWb
import Derived.Test.YtodmnjbchegnaaaWc
import Derived.Test.YtodmnjbchegnaaaWd
import Derived.Test.YtodmnjbchegnaaaWe
import Derived.Test.YtodmnjbchegnaaaWf
import Derived.Test.YtodmnjbchegnaaaWg
import Derived.Test.YtodmnjbchegnaaaWh
set_option linter.unusedVariables false
set_option linter.unusedSimpArgs false
namespace Go.Proofs.Ytodmnjbchegnaaa.G
open Go Go.RowKit
namespace Ld
theorem u26 : Try.prog.underlying 26 = some (TypeDesc.slice 2) := by kernel_rfl
theorem fn18 : Fn Try.prog 18 := ⟨_, Try.func18, by kernel_rfl, rfl⟩
theorem fn20 : Fn Try.prog 20 := ⟨_, Try.func20, by kernel_rfl, rfl⟩
theorem fn26 : Fn Try.prog 26 := ⟨_, Try.func26, by kernel_rfl, rfl⟩
theorem fn27 : Fn Try.prog 27 := ⟨_, Try.func27, by kernel_rfl, rfl⟩
theorem fn28 : Fn Try.prog 28 := ⟨_, Try.func28, by kernel_rfl, rfl⟩
theorem fn29 : Fn Try.prog 29 := ⟨_, Try.func29, by kernel_rfl, rfl⟩
end Ld
open Ld
set_option maxHeartbeats 1000000 in
set_option maxRecDepth 10000 in
theorem lawFreeSeries_c {B : World} {H0 H : HP} {L : List SA} {w : World} {qds : Option Addr} {cds : Nat} {ds : List Int} {m : Int} (hds : Ints H qds ds) (hH : Hp B H0 H L w) :
    Calls Try.prog 8 [.slice qds ds.length cds, .int .i64 m].toArray w fun e w' => e = .returned (.bool true) ∧ Below B.heap.size B w' := by
  refine CJ.enter Try.func8 rfl 98 rfl rfl [(0, .slice qds ds.length cds), (1, .int .i64 m)] rfl hH ?_
  clear hH
  have hsl := serF_len ds m
  refine CJ.seq fun _ hK1 _ => ?_
  refine CJ.region ?_
  refine J.p (PR.assign rfl) rfl ?_
  refine J.nil ?_
  refine EJ.thenN (hK1 ?_)
  refine CJ.seq fun _ hK2 _ => ?_
  refine CJ.seq fun _ hK3 _ => ?_
  refine CJ.region ?_
  refine J.p (PR.move rfl) rfl ?_
  refine J.p (PR.lenSlice u26 rfl rfl) rfl ?_
  refine J.p (PR.gtr rfl rfl) rfl ?_
  refine J.nil ?_
  refine EJ.thenN (hK3 ?_)
  refine CJ.condD rfl (fun hc17 => ?_) (fun hc17 => ?_)
  ·
    refine CJ.seq fun _ hK4 _ => ?_
    refine CJ.region ?_
    refine J.p (PR.assign rfl) rfl ?_
    refine J.nil ?_
    refine EJ.thenN (hK4 ?_)
    refine CJ.ret ?_
    refine EJ.thenR ?_
    refine EJ.ret1 rfl (Res.tmp rfl) fun w hH => ?_
    first | exact ⟨rfl, hH.below⟩ | exact absurd rfl hc17p | exact absurd rfl hc17 | (exfalso; omega) | (simp at hc17; done)
  ·
    refine CJ.skip ?_
    refine EJ.thenN (hK2 ?_)
    refine CJ.seq fun _ hK5 _ => ?_
    refine CJ.region ?_
    refine J.p (PR.move rfl) rfl ?_
    refine J.call fn18 rfl rfl fun w hH => (toInt64S_c hds (by omega) hH).mono ?_
    rintro _ w ⟨qo20, co20, rfl, hH⟩
    refine ⟨_, rfl, fun a hF => J.of hF hH ?_⟩
    refine J.p (PR.move rfl) rfl ?_
    refine J.call fn26 rfl rfl fun w hH => hH.lend .z fun Hl1 hle1 hA1 hB1 hH => (sFreeSeries_c (own_ints hA1) (by omega) hH).mono ?_
    rintro _ w ⟨qo22, co22, rfl, hH⟩
    replace hH := hB1 _ _ hH
    refine ⟨_, rfl, fun a hF => J.of hF hH ?_⟩
    refine J.p (PR.move rfl) rfl ?_
    refine J.p (PR.extract rfl rfl) rfl ?_
    refine J.p (PR.extract rfl rfl) rfl ?_
    refine J.p (PR.assign rfl) rfl ?_
    refine J.p (PR.assign rfl) rfl ?_
    refine J.nil ?_
    refine EJ.thenN (hK5 ?_)
    refine CJ.seq fun _ hK6 _ => ?_
    refine CJ.region ?_
    refine J.p (PR.move rfl) rfl ?_
    refine J.call fn18 rfl rfl fun w hH => (toInt64S_c hds (by omega) hH).mono ?_
    rintro _ w ⟨qo26, co26, rfl, hH⟩
    refine ⟨_, rfl, fun a hF => J.of hF hH ?_⟩
    refine J.p (PR.assign rfl) rfl ?_
    refine J.nil ?_
    refine EJ.thenN (hK6 ?_)
    refine CJ.seq fun _ hK7 _ => ?_
    refine CJ.region ?_
    refine J.p (PR.move rfl) rfl ?_
    refine J.p (PR.move rfl) rfl ?_
    refine J.call fn27 rfl rfl fun w hH => hH.lend .z fun Hl1 hle1 hA1 hB1 hH => (FreeSeries_c (own_ints hA1) (by omega) hH).mono ?_
    rintro _ w ⟨qo30, co30, rfl, hH⟩
    replace hH := hB1 _ _ hH
    refine ⟨_, rfl, fun a hF => J.of hF hH ?_⟩
    refine J.p (PR.move rfl) rfl ?_
    refine J.p (PR.extract rfl rfl) rfl ?_
    refine J.p (PR.extract rfl rfl) rfl ?_
    refine J.p (PR.assign rfl) rfl ?_
    refine J.p (PR.assign rfl) rfl ?_
    refine J.nil ?_
    refine EJ.thenN (hK7 ?_)
    refine CJ.seq fun _ hK8 _ => ?_
    refine CJ.seq fun _ hK9 _ => ?_
    refine CJ.region ?_
    refine J.p (PR.move rfl) rfl ?_
    refine J.p (PR.move rfl) rfl ?_
    refine J.call fn20 rfl rfl fun w hH => hH.lend (.s .z) fun Hl1 hle1 hA1 hB1 hH => hH.lend (.s (.s .z)) fun Hl2 hle2 hA2 hB2 hH => (eqInt64S_c ((own_ints hA1).le hle2) (own_ints hA2) (by omega) hH).mono ?_
    rintro _ w ⟨rfl, hH⟩
    replace hH := hB2 _ _ hH
    replace hH := hB1 _ _ hH
    refine ⟨_, rfl, fun a hF => J.of hF hH ?_⟩
    refine J.p (PR.not rfl) rfl ?_
    refine J.p (PR.move rfl) rfl ?_
    refine J.splitB (jd := 37) rfl (fun hg37 => ?_) (fun hg37 => ?_)
    ·
      try have hg37p := of_decide_eq_true hg37
      refine J.gn rfl rfl rfl hg37 ?_
      refine J.gn rfl rfl rfl hg37 ?_
      refine J.gn rfl rfl rfl hg37 ?_
      refine J.p (PR.pickT rfl hg37 rfl) rfl ?_
      refine J.nil ?_
      refine EJ.thenN (hK9 ?_)
      refine CJ.condT rfl ?_
      refine CJ.seq fun _ hK10 _ => ?_
      refine CJ.region ?_
      refine J.p (PR.assign rfl) rfl ?_
      refine J.nil ?_
      refine EJ.thenN (hK10 ?_)
      refine CJ.ret ?_
      refine EJ.thenR ?_
      refine EJ.ret1 rfl (Res.tmp rfl) fun w hH => ?_
      replace hH := hH.tail
      replace hH := hH.tail
      replace hH := hH.tail
      replace hH := hH.tail
      first | exact ⟨rfl, hH.below⟩ | exact absurd rfl hg37p | exact absurd rfl hg37 | (exfalso; omega) | (simp at hg37; done)
    ·
      try have hg37p := of_decide_eq_false hg37
      refine J.gy (PR.move rfl) rfl rfl rfl hg37 ?_
      refine J.gy (PR.move rfl) rfl rfl rfl hg37 ?_
      refine J.gy (PR.neq rfl rfl) rfl rfl rfl hg37 ?_
      refine J.p (PR.pickF rfl hg37 rfl) rfl ?_
      refine J.nil ?_
      refine EJ.thenN (hK9 ?_)
      refine CJ.condD rfl (fun hc41 => ?_) (fun hc41 => ?_)
      ·
        refine CJ.seq fun _ hK11 _ => ?_
        refine CJ.region ?_
        refine J.p (PR.assign rfl) rfl ?_
        refine J.nil ?_
        refine EJ.thenN (hK11 ?_)
        refine CJ.ret ?_
        refine EJ.thenR ?_
        refine EJ.ret1 rfl (Res.tmp rfl) fun w hH => ?_
        replace hH := hH.tail
        replace hH := hH.tail
        replace hH := hH.tail
        replace hH := hH.tail
        first | exact ⟨rfl, hH.below⟩ | exact absurd rfl hc41p | exact absurd rfl hc41 | (exfalso; omega) | (simp at hc41; done)
      ·
        refine CJ.skip ?_
        refine EJ.thenN (hK8 ?_)
        refine CJ.seq fun _ hK12 _ => ?_
        refine CJ.seq fun _ hK13 _ => ?_
        refine CJ.region ?_
        refine J.p (PR.move rfl) rfl ?_
        refine J.p (PR.move rfl) rfl ?_
        refine J.call fn18 rfl rfl fun w hH => (toInt64S_c hds (by omega) hH).mono ?_
        rintro _ w ⟨qo44, co44, rfl, hH⟩
        refine ⟨_, rfl, fun a hF => J.of hF hH ?_⟩
        refine J.call fn20 rfl rfl fun w hH => hH.lend (.s (.s (.s .z))) fun Hl1 hle1 hA1 hB1 hH => hH.lend .z fun Hl2 hle2 hA2 hB2 hH => (eqInt64S_c ((own_ints hA1).le hle2) (own_ints hA2) (by omega) hH).mono ?_
        rintro _ w ⟨rfl, hH⟩
        replace hH := hB2 _ _ hH
        replace hH := hB1 _ _ hH
        refine ⟨_, rfl, fun a hF => J.of hF hH ?_⟩
        refine J.p (PR.not rfl) rfl ?_
        refine J.nil ?_
        refine EJ.thenN (hK13 ?_)
        refine CJ.cond rfl (fun hc46 => ?_) (fun hc46 => ?_)
        ·
          refine CJ.seq fun _ hK14 _ => ?_
          refine CJ.region ?_
          refine J.p (PR.assign rfl) rfl ?_
          refine J.nil ?_
          refine EJ.thenN (hK14 ?_)
          refine CJ.ret ?_
          refine EJ.thenR ?_
          refine EJ.ret1 rfl (Res.tmp rfl) fun w hH => ?_
          replace hH := hH.tail
          replace hH := hH.tail
          replace hH := hH.tail
          replace hH := hH.tail
          replace hH := hH.tail
          first | exact ⟨rfl, hH.below⟩ | exact absurd rfl hc46p | exact absurd rfl hc46 | (exfalso; omega) | (simp at hc46; done)
        ·
          refine CJ.skip ?_
          refine EJ.thenN (hK12 ?_)
          refine CJ.seq fun _ hK15 _ => ?_
          refine CJ.region ?_
          refine J.p (PR.assign rfl) rfl ?_
          refine J.nil ?_
          refine EJ.thenN (hK15 ?_)
          refine CJ.seq fun _ hK16 _ => ?_
          refine CJ.region ?_
          refine J.p (PR.move rfl) rfl ?_
          refine J.p (PR.move rfl) rfl ?_
          refine J.call fn28 rfl rfl fun w hH => (markInt64S_c (by omega) (hH.front .z)).mono ?_
          rintro _ w ⟨rfl, hH⟩
          refine ⟨_, rfl, fun a hF => J.of hF hH ?_⟩
          refine J.p (PR.assign rfl) rfl ?_
          refine J.nil ?_
          refine EJ.thenN (hK16 ?_)
          refine CJ.seq fun _ hK17 _ => ?_
          refine CJ.seq fun _ hK18 _ => ?_
          refine CJ.region ?_
          refine J.p (PR.move rfl) rfl ?_
          refine J.p (PR.lss rfl rfl) rfl ?_
          refine J.p (PR.move rfl) rfl ?_
          refine J.splitB (jd := 52) rfl (fun hg52 => ?_) (fun hg52 => ?_)
          ·
            try have hg52p := of_decide_eq_true hg52
            refine J.gn rfl rfl rfl hg52 ?_
            refine J.gn rfl rfl rfl hg52 ?_
            refine J.gn rfl rfl rfl hg52 ?_
            refine J.gn rfl rfl rfl hg52 ?_
            refine J.p (PR.pickT rfl hg52 rfl) rfl ?_
            refine J.p (PR.move rfl) rfl ?_
            refine J.gn rfl rfl rfl rfl ?_
            refine J.gn rfl rfl rfl rfl ?_
            refine J.gn rfl rfl rfl rfl ?_
            refine J.p (PR.pickT rfl rfl rfl) rfl ?_
            refine J.nil ?_
            refine EJ.thenN (hK18 ?_)
            refine CJ.condT rfl ?_
            refine CJ.seq fun _ hK19 _ => ?_
            refine CJ.region ?_
            refine J.p (PR.assign rfl) rfl ?_
            refine J.nil ?_
            refine EJ.thenN (hK19 ?_)
            refine CJ.ret ?_
            refine EJ.thenR ?_
            refine EJ.ret1 rfl (Res.tmp rfl) fun w hH => ?_
            replace hH := hH.tail
            replace hH := hH.tail
            replace hH := hH.tail
            replace hH := hH.tail
            replace hH := hH.tail
            first | exact ⟨rfl, hH.below⟩ | exact absurd rfl hg52p | exact absurd rfl hg52 | (exfalso; omega) | (simp at hg52; done)
          ·
            try have hg52p := of_decide_eq_false hg52
            refine J.gy (PR.move rfl) rfl rfl rfl hg52 ?_
            refine J.gy (PR.move rfl) rfl rfl rfl hg52 ?_
            refine J.gcall fn20 rfl rfl hg52 rfl rfl fun w hH => hH.lend (.s (.s .z)) fun Hl1 hle1 hA1 hB1 hH => hH.lend (.s (.s .z)) fun Hl2 hle2 hA2 hB2 hH => (eqInt64S_c ((own_ints hA1).le hle2) (own_ints hA2) (by omega) hH).mono ?_
            rintro _ w ⟨rfl, hH⟩
            replace hH := hB2 _ _ hH
            replace hH := hB1 _ _ hH
            refine ⟨_, rfl, fun a hF => J.of hF hH ?_⟩
            refine J.gy (PR.not rfl) rfl rfl rfl hg52 ?_
            refine J.p (PR.pickF rfl hg52 rfl) rfl ?_
            refine J.p (PR.move rfl) rfl ?_
            refine J.splitB (jd := 58) rfl (fun hg58 => ?_) (fun hg58 => ?_)
            ·
              try have hg58p := of_decide_eq_true hg58
              refine J.gn rfl rfl rfl hg58 ?_
              refine J.gn rfl rfl rfl hg58 ?_
              refine J.gn rfl rfl rfl hg58 ?_
              refine J.p (PR.pickT rfl hg58 rfl) rfl ?_
              refine J.nil ?_
              refine EJ.thenN (hK18 ?_)
              refine CJ.condT rfl ?_
              refine CJ.seq fun _ hK20 _ => ?_
              refine CJ.region ?_
              refine J.p (PR.assign rfl) rfl ?_
              refine J.nil ?_
              refine EJ.thenN (hK20 ?_)
              refine CJ.ret ?_
              refine EJ.thenR ?_
              refine EJ.ret1 rfl (Res.tmp rfl) fun w hH => ?_
              replace hH := hH.tail
              replace hH := hH.tail
              replace hH := hH.tail
              replace hH := hH.tail
              replace hH := hH.tail
              first | exact ⟨rfl, hH.below⟩ | exact absurd rfl hg58p | exact absurd rfl hg58 | (exfalso; omega) | (simp at hg58; done)
            ·
              try have hg58p := of_decide_eq_false hg58
              refine J.gy (PR.move rfl) rfl rfl rfl hg58 ?_
              refine J.gy (PR.move rfl) rfl rfl rfl hg58 ?_
              refine J.gy (PR.neq rfl rfl) rfl rfl rfl hg58 ?_
              refine J.p (PR.pickF rfl hg58 rfl) rfl ?_
              refine J.nil ?_
              refine EJ.thenN (hK18 ?_)
              refine CJ.condD rfl (fun hc62 => ?_) (fun hc62 => ?_)
              ·
                refine CJ.seq fun _ hK21 _ => ?_
                refine CJ.region ?_
                refine J.p (PR.assign rfl) rfl ?_
                refine J.nil ?_
                refine EJ.thenN (hK21 ?_)
                refine CJ.ret ?_
                refine EJ.thenR ?_
                refine EJ.ret1 rfl (Res.tmp rfl) fun w hH => ?_
                replace hH := hH.tail
                replace hH := hH.tail
                replace hH := hH.tail
                replace hH := hH.tail
                replace hH := hH.tail
                first | exact ⟨rfl, hH.below⟩ | exact absurd rfl hc62p | exact absurd rfl hc62 | (exfalso; omega) | (simp at hc62; done)
              ·
                refine CJ.skip ?_
                refine EJ.thenN (hK17 ?_)
                refine CJ.seq fun _ hK22 _ => ?_
                refine CJ.region ?_
                refine J.p (PR.assign rfl) rfl ?_
                refine J.nil ?_
                refine EJ.thenN (hK22 ?_)
                refine CJ.seq fun _ hK23 _ => ?_
                refine CJ.region ?_
                refine J.p (PR.move rfl) rfl ?_
                refine J.p (PR.move rfl) rfl ?_
                refine J.call fn28 rfl rfl fun w hH => (markInt64S_c (by omega) (hH.front .z)).mono ?_
                rintro _ w ⟨rfl, hH⟩
                refine ⟨_, rfl, fun a hF => J.of hF hH ?_⟩
                refine J.p (PR.assign rfl) rfl ?_
                refine J.nil ?_
                refine EJ.thenN (hK23 ?_)
                refine CJ.seq fun _ hK24 _ => ?_
                refine CJ.region ?_
                refine J.p (PR.assign rfl) rfl ?_
                refine J.nil ?_
                refine EJ.thenN (hK24 ?_)
                refine CJ.seq fun _ hK25 _ => ?_
                refine CJ.region ?_
                refine J.p (PR.move rfl) rfl ?_
                refine J.p (PR.move rfl) rfl ?_
                refine J.call fn29 rfl rfl fun w hH => hH.lend .z fun Hl1 hle1 hA1 hB1 hH => (heldInt64S_c (own_mints hA1) (by omega) hH).mono ?_
                rintro _ w ⟨rfl, hH⟩
                replace hH := hB1 _ _ hH
                refine ⟨_, rfl, fun a hF => J.of hF hH ?_⟩
                refine J.p (PR.assign rfl) rfl ?_
                refine J.nil ?_
                refine EJ.thenN (hK25 ?_)
                refine CJ.seq fun _ hK26 _ => ?_
                refine CJ.seq fun _ hK27 _ => ?_
                refine CJ.region ?_
                refine J.p (PR.move rfl) rfl ?_
                refine J.p (PR.lss rfl rfl) rfl ?_
                refine J.nil ?_
                refine EJ.thenN (hK27 ?_)
                refine CJ.condD rfl (fun hc70 => ?_) (fun hc70 => ?_)
                ·
                  refine CJ.seq fun _ hK28 _ => ?_
                  refine CJ.region ?_
                  refine J.p (PR.assign rfl) rfl ?_
                  refine J.nil ?_
                  refine EJ.thenN (hK28 ?_)
                  refine CJ.ret ?_
                  refine EJ.thenR ?_
                  refine EJ.ret1 rfl (Res.tmp rfl) fun w hH => ?_
                  replace hH := hH.tail
                  replace hH := hH.tail
                  replace hH := hH.tail
                  replace hH := hH.tail
                  replace hH := hH.tail
                  first | exact ⟨rfl, hH.below⟩ | exact absurd rfl hc70p | exact absurd rfl hc70 | (exfalso; omega) | (simp at hc70; done)
                ·
                  refine CJ.skip ?_
                  refine EJ.thenN (hK26 ?_)
                  refine CJ.seq fun _ hK29 _ => ?_
                  refine CJ.seq fun _ hK30 _ => ?_
                  refine CJ.region ?_
                  refine J.p (PR.move rfl) rfl ?_
                  refine J.p (PR.move rfl) rfl ?_
                  refine J.p (PR.neq rfl rfl) rfl ?_
                  refine J.nil ?_
                  refine EJ.thenN (hK30 ?_)
                  refine CJ.condD rfl (fun hc73 => ?_) (fun hc73 => ?_)
                  ·
                    refine CJ.seq fun _ hK31 _ => ?_
                    refine CJ.region ?_
                    refine J.p (PR.assign rfl) rfl ?_
                    refine J.nil ?_
                    refine EJ.thenN (hK31 ?_)
                    refine CJ.ret ?_
                    refine EJ.thenR ?_
                    refine EJ.ret1 rfl (Res.tmp rfl) fun w hH => ?_
                    replace hH := hH.tail
                    replace hH := hH.tail
                    replace hH := hH.tail
                    replace hH := hH.tail
                    replace hH := hH.tail
                    first | exact ⟨rfl, hH.below⟩ | exact absurd rfl hc73p | exact absurd rfl hc73 | (exfalso; omega) | (simp at hc73; done)
                  ·
                    refine CJ.skip ?_
                    refine EJ.thenN (hK29 ?_)
                    refine CJ.seq fun _ hK32 _ => ?_
                    refine CJ.region ?_
                    refine J.p (PR.move rfl) rfl ?_
                    refine J.call fn18 rfl rfl fun w hH => (toInt64S_c hds (by omega) hH).mono ?_
                    rintro _ w ⟨qo76, co76, rfl, hH⟩
                    refine ⟨_, rfl, fun a hF => J.of hF hH ?_⟩
                    refine J.p (PR.move rfl) rfl ?_
                    refine J.call fn27 rfl rfl fun w hH => hH.lend .z fun Hl1 hle1 hA1 hB1 hH => (FreeSeries_c (own_ints hA1) (by omega) hH).mono ?_
                    rintro _ w ⟨qo78, co78, rfl, hH⟩
                    replace hH := hB1 _ _ hH
                    refine ⟨_, rfl, fun a hF => J.of hF hH ?_⟩
                    refine J.p (PR.move rfl) rfl ?_
                    refine J.p (PR.extract rfl rfl) rfl ?_
                    refine J.p (PR.extract rfl rfl) rfl ?_
                    refine J.p (PR.assign rfl) rfl ?_
                    refine J.p (PR.assign rfl) rfl ?_
                    refine J.nil ?_
                    refine EJ.thenN (hK32 ?_)
                    refine CJ.seq fun _ hK33 _ => ?_
                    refine CJ.seq fun _ hK34 _ => ?_
                    refine CJ.region ?_
                    refine J.p (PR.move rfl) rfl ?_
                    refine J.p (PR.move rfl) rfl ?_
                    refine J.call fn20 rfl rfl fun w hH => hH.lend (.s .z) fun Hl1 hle1 hA1 hB1 hH => hH.lend (.s (.s .z)) fun Hl2 hle2 hA2 hB2 hH => (eqInt64S_c ((own_ints hA1).le hle2) (own_ints hA2) (by omega) hH).mono ?_
                    rintro _ w ⟨rfl, hH⟩
                    replace hH := hB2 _ _ hH
                    replace hH := hB1 _ _ hH
                    refine ⟨_, rfl, fun a hF => J.of hF hH ?_⟩
                    refine J.p (PR.not rfl) rfl ?_
                    refine J.p (PR.move rfl) rfl ?_
                    refine J.splitB (jd := 85) rfl (fun hg85 => ?_) (fun hg85 => ?_)
                    ·
                      try have hg85p := of_decide_eq_true hg85
                      refine J.gn rfl rfl rfl hg85 ?_
                      refine J.gn rfl rfl rfl hg85 ?_
                      refine J.gn rfl rfl rfl hg85 ?_
                      refine J.p (PR.pickT rfl hg85 rfl) rfl ?_
                      refine J.nil ?_
                      refine EJ.thenN (hK34 ?_)
                      refine CJ.condT rfl ?_
                      refine CJ.seq fun _ hK35 _ => ?_
                      refine CJ.region ?_
                      refine J.p (PR.assign rfl) rfl ?_
                      refine J.nil ?_
                      refine EJ.thenN (hK35 ?_)
                      refine CJ.ret ?_
                      refine EJ.thenR ?_
                      refine EJ.ret1 rfl (Res.tmp rfl) fun w hH => ?_
                      replace hH := hH.tail
                      replace hH := hH.tail
                      replace hH := hH.tail
                      replace hH := hH.tail
                      replace hH := hH.tail
                      replace hH := hH.tail
                      replace hH := hH.tail
                      first | exact ⟨rfl, hH.below⟩ | exact absurd rfl hg85p | exact absurd rfl hg85 | (exfalso; omega) | (simp at hg85; done)
                    ·
                      try have hg85p := of_decide_eq_false hg85
                      refine J.gy (PR.move rfl) rfl rfl rfl hg85 ?_
                      refine J.gy (PR.move rfl) rfl rfl rfl hg85 ?_
                      refine J.gy (PR.neq rfl rfl) rfl rfl rfl hg85 ?_
                      refine J.p (PR.pickF rfl hg85 rfl) rfl ?_
                      refine J.nil ?_
                      refine EJ.thenN (hK34 ?_)
                      refine CJ.condD rfl (fun hc89 => ?_) (fun hc89 => ?_)
                      ·
                        refine CJ.seq fun _ hK36 _ => ?_
                        refine CJ.region ?_
                        refine J.p (PR.assign rfl) rfl ?_
                        refine J.nil ?_
                        refine EJ.thenN (hK36 ?_)
                        refine CJ.ret ?_
                        refine EJ.thenR ?_
                        refine EJ.ret1 rfl (Res.tmp rfl) fun w hH => ?_
                        replace hH := hH.tail
                        replace hH := hH.tail
                        replace hH := hH.tail
                        replace hH := hH.tail
                        replace hH := hH.tail
                        replace hH := hH.tail
                        replace hH := hH.tail
                        first | exact ⟨rfl, hH.below⟩ | exact absurd rfl hc89p | exact absurd rfl hc89 | (exfalso; omega) | (simp at hc89; done)
                      ·
                        refine CJ.skip ?_
                        refine EJ.thenN (hK33 ?_)
                        refine CJ.seq fun _ hK37 _ => ?_
                        refine CJ.region ?_
                        refine J.p (PR.assign rfl) rfl ?_
                        refine J.nil ?_
                        refine EJ.thenN (hK37 ?_)
                        refine CJ.seq fun _ hK38 _ => ?_
                        refine CJ.region ?_
                        refine J.p (PR.move rfl) rfl ?_
                        refine J.p (PR.move rfl) rfl ?_
                        refine J.call fn29 rfl rfl fun w hH => hH.lend (.s (.s (.s .z))) fun Hl1 hle1 hA1 hB1 hH => (heldInt64S_c (own_mints hA1) (by omega) hH).mono ?_
                        rintro _ w ⟨rfl, hH⟩
                        replace hH := hB1 _ _ hH
                        refine ⟨_, rfl, fun a hF => J.of hF hH ?_⟩
                        refine J.p (PR.assign rfl) rfl ?_
                        refine J.nil ?_
                        refine EJ.thenN (hK38 ?_)
                        refine CJ.seq fun _ hK39 _ => ?_
                        refine CJ.seq fun _ hK40 _ => ?_
                        refine CJ.region ?_
                        refine J.p (PR.move rfl) rfl ?_
                        refine J.p (PR.lss rfl rfl) rfl ?_
                        refine J.nil ?_
                        refine EJ.thenN (hK40 ?_)
                        refine CJ.condD rfl (fun hc94 => ?_) (fun hc94 => ?_)
                        ·
                          refine CJ.seq fun _ hK41 _ => ?_
                          refine CJ.region ?_
                          refine J.p (PR.assign rfl) rfl ?_
                          refine J.nil ?_
                          refine EJ.thenN (hK41 ?_)
                          refine CJ.ret ?_
                          refine EJ.thenR ?_
                          refine EJ.ret1 rfl (Res.tmp rfl) fun w hH => ?_
                          replace hH := hH.tail
                          replace hH := hH.tail
                          replace hH := hH.tail
                          replace hH := hH.tail
                          replace hH := hH.tail
                          replace hH := hH.tail
                          replace hH := hH.tail
                          first | exact ⟨rfl, hH.below⟩ | exact absurd rfl hc94p | exact absurd rfl hc94 | (exfalso; omega) | (simp at hc94; done)
                        ·
                          refine CJ.skip ?_
                          refine EJ.thenN (hK39 ?_)
                          refine CJ.seq fun _ hK42 _ => ?_
                          refine CJ.seq fun _ hK43 _ => ?_
                          refine CJ.region ?_
                          refine J.p (PR.move rfl) rfl ?_
                          refine J.p (PR.move rfl) rfl ?_
                          refine J.p (PR.neq rfl rfl) rfl ?_
                          refine J.nil ?_
                          refine EJ.thenN (hK43 ?_)
                          refine CJ.condD rfl (fun hc97 => ?_) (fun hc97 => ?_)
                          ·
                            refine CJ.seq fun _ hK44 _ => ?_
                            refine CJ.region ?_
                            refine J.p (PR.assign rfl) rfl ?_
                            refine J.nil ?_
                            refine EJ.thenN (hK44 ?_)
                            refine CJ.ret ?_
                            refine EJ.thenR ?_
                            refine EJ.ret1 rfl (Res.tmp rfl) fun w hH => ?_
                            replace hH := hH.tail
                            replace hH := hH.tail
                            replace hH := hH.tail
                            replace hH := hH.tail
                            replace hH := hH.tail
                            replace hH := hH.tail
                            replace hH := hH.tail
                            first | exact ⟨rfl, hH.below⟩ | exact absurd rfl hc97p | exact absurd rfl hc97 | (exfalso; omega) | (simp at hc97; done)
                          ·
                            refine CJ.skip ?_
                            refine EJ.thenN (hK42 ?_)
                            refine CJ.seq fun _ hK45 _ => ?_
                            refine CJ.region ?_
                            refine J.p (PR.assign rfl) rfl ?_
                            refine J.nil ?_
                            refine EJ.thenN (hK45 ?_)
                            refine CJ.ret ?_
                            refine EJ.ret1 rfl (Res.tmp rfl) fun w hH => ?_
                            replace hH := hH.tail
                            replace hH := hH.tail
                            replace hH := hH.tail
                            replace hH := hH.tail
                            replace hH := hH.tail
                            replace hH := hH.tail
                            replace hH := hH.tail
                            first | exact ⟨rfl, hH.below⟩ | exact absurd rfl hc97p | exact absurd rfl hc97 | (exfalso; omega) | (simp at hc97; done)
end Go.Proofs.Ytodmnjbchegnaaa.G
