/- The walks: what each Go function does, shown from its text. No condition. -/
import Derived.Test.YtpojpokldncglaaGOpen
import Derived.Test.YtpojpokldncglaaProg
import Derived.Test.YtpojpokldncglaaWa
import Derived.Test.YtpojpokldncglaaWb
import Derived.Test.YtpojpokldncglaaWc
import Derived.Test.YtpojpokldncglaaWd
import Derived.Test.YtpojpokldncglaaWe
import Derived.Test.YtpojpokldncglaaWf
import Derived.Test.YtpojpokldncglaaWg
import Derived.Test.YtpojpokldncglaaWh
import Derived.Test.YtpojpokldncglaaWi
import Derived.Test.YtpojpokldncglaaWj
import Derived.Test.YtpojpokldncglaaWk
import Derived.Test.YtpojpokldncglaaWl
import Derived.Test.YtpojpokldncglaaWm
import Derived.Test.YtpojpokldncglaaWn
import Derived.Test.YtpojpokldncglaaWo
import Derived.Test.YtpojpokldncglaaWp
set_option linter.unusedVariables false
set_option linter.unusedSimpArgs false
namespace Go.Proofs.Ytpojpokldncglaa.G
open Go Go.RowKit
namespace Lg
theorem u22 : Try.prog.underlying 22 = some (TypeDesc.slice 2) := by kernel_rfl
theorem u25 : Try.prog.underlying 25 = some (TypeDesc.struct #[{ name := "Terms", type := 23, offset := 0, embedded := false, tag := "", pkgPath := "", byteOffset := 0 }]) := by kernel_rfl
theorem u29 : Try.prog.underlying 29 = some (TypeDesc.struct #[{ name := "Terms", type := 27, offset := 0, embedded := false, tag := "", pkgPath := "", byteOffset := 0 }]) := by kernel_rfl
theorem sz29 : Size Try.prog 29 1 := by unfold Size; kernel_rfl
theorem ze29 : Zero Try.prog 29 [.slice none 0 0] := by unfold Zero; kernel_rfl
theorem ag25 : Agg Try.prog 25 1 := ⟨_, u25, rfl, by kernel_rfl⟩
theorem ag29 : Agg Try.prog 29 1 := ⟨_, u29, rfl, by kernel_rfl⟩
theorem fn18 : Fn Try.prog 18 := ⟨_, Try.func18, by kernel_rfl, rfl⟩
theorem fn19 : Fn Try.prog 19 := ⟨_, Try.func19, by kernel_rfl, rfl⟩
theorem fn20 : Fn Try.prog 20 := ⟨_, Try.func20, by kernel_rfl, rfl⟩
theorem fn21 : Fn Try.prog 21 := ⟨_, Try.func21, by kernel_rfl, rfl⟩
theorem fn22 : Fn Try.prog 22 := ⟨_, Try.func22, by kernel_rfl, rfl⟩
theorem fn23 : Fn Try.prog 23 := ⟨_, Try.func23, by kernel_rfl, rfl⟩
theorem fn24 : Fn Try.prog 24 := ⟨_, Try.func24, by kernel_rfl, rfl⟩
theorem fn25 : Fn Try.prog 25 := ⟨_, Try.func25, by kernel_rfl, rfl⟩
theorem fn26 : Fn Try.prog 26 := ⟨_, Try.func26, by kernel_rfl, rfl⟩
theorem fn27 : Fn Try.prog 27 := ⟨_, Try.func27, by kernel_rfl, rfl⟩
theorem foll0 : Try.prog.follows .mixedOrders = true := by kernel_rfl
end Lg
open Lg
set_option maxHeartbeats 2000000 in
set_option maxRecDepth 10000 in
theorem lawPartOfForm_c {B : World} {H0 H : HP} {L : List SA} {w : World} {qds : Option Addr} {cds : Nat} {ds : List Int} {qts : Option Addr} {cts : Nat} {ts : List Term} {n : Int} (hds : Ints H qds ds) (hts : Terms H qts ts) (hl : ts.length ≤ 9223372036854775807) (hH : Hp B H0 H L w) :
    Calls Try.prog 3 [.slice qds ds.length cds, .agg [.slice qts ts.length cts].toArray, .int .i64 n].toArray w fun e w' => e = .returned (.bool true) ∧ Below B.heap.size B w' := by
  refine CJ.enter Try.func3 rfl 122 rfl rfl [(0, .slice qds ds.length cds), (1, .agg [.slice qts ts.length cts].toArray), (2, .int .i64 n)] rfl hH ?_
  clear hH
  have f1 := parF_len ds ts n
  refine CJ.seq fun _ hK1 _ => ?_
  refine CJ.region ?_
  refine J.box rfl rfl rfl fun g4 => ?_
  refine J.p (PR.assign rfl) rfl ?_
  refine J.nil ?_
  refine EJ.thenN (hK1 ?_)
  refine CJ.seq fun _ hK2 _ => ?_
  refine CJ.seq fun _ hK3 _ => ?_
  refine CJ.region ?_
  refine J.p (PR.move rfl) rfl ?_
  refine J.p (PR.lenSlice u22 rfl rfl) rfl ?_
  refine J.p (PR.gtr rfl rfl) rfl ?_
  refine J.nil ?_
  refine EJ.thenN (hK3 ?_)
  refine CJ.condD rfl (fun hc21 => ?_) (fun hc21 => ?_)
  ·
    refine CJ.seq fun _ hK4 _ => ?_
    refine CJ.region ?_
    refine J.p (PR.assign rfl) rfl ?_
    refine J.nil ?_
    refine EJ.thenN (hK4 ?_)
    refine CJ.ret ?_
    refine EJ.thenR ?_
    refine EJ.ret1 rfl (Res.tmp rfl) fun w hH => ?_
    replace hH := hH.tail
    first | exact ⟨rfl, hH.below⟩ | exact absurd rfl hc21p | exact absurd rfl hc21 | (exfalso; omega) | (simp at hc21; done)
  ·
    refine CJ.skip ?_
    refine EJ.thenN (hK2 ?_)
    refine CJ.seq fun _ hK5 _ => ?_
    refine CJ.region ?_
    refine J.p (PR.assign rfl) rfl ?_
    refine J.nil ?_
    refine EJ.thenN (hK5 ?_)
    refine CJ.seq fun _ hK6 _ => ?_
    refine CJ.region ?_
    refine J.p (PR.loadAll rfl At.z (by simpa [*] using ag25)) rfl ?_
    refine J.p (PR.move rfl) rfl ?_
    refine J.call fn18 rfl rfl fun w hH => (szForm_c hts (by omega) hH).mono ?_
    rintro _ w ⟨rfl, hH⟩
    refine ⟨_, rfl, fun a hF => J.of hF hH ?_⟩
    refine J.p (PR.assign rfl) rfl ?_
    refine J.nil ?_
    refine EJ.thenN (hK6 ?_)
    refine CJ.seq fun _ hK7 _ => ?_
    refine CJ.seq fun _ hK8 _ => ?_
    refine CJ.region ?_
    refine J.p (PR.move rfl) rfl ?_
    refine J.p (PR.lss rfl rfl) rfl ?_
    refine J.nil ?_
    refine EJ.thenN (hK8 ?_)
    refine CJ.condD rfl (fun hc26 => ?_) (fun hc26 => ?_)
    ·
      refine CJ.seq fun _ hK9 _ => ?_
      refine CJ.region ?_
      refine J.p (PR.assign rfl) rfl ?_
      refine J.nil ?_
      refine EJ.thenN (hK9 ?_)
      refine CJ.ret ?_
      refine EJ.thenR ?_
      refine EJ.ret1 rfl (Res.tmp rfl) fun w hH => ?_
      replace hH := hH.tail
      first | exact ⟨rfl, hH.below⟩ | exact absurd rfl hc26p | exact absurd rfl hc26 | (exfalso; omega) | (simp at hc26; done)
    ·
      refine CJ.skip ?_
      refine EJ.thenN (hK7 ?_)
      refine CJ.seq fun _ hK10 _ => ?_
      refine CJ.openR (Rs := [_]) 12 [[], [0], [], [0, 1, 2], [], [0, 1, 2, 3, 4], [0, 1, 2, 3, 4, 5], [0, 1, 2, 3, 4, 5, 6], [0, 1, 2, 3, 4, 5, 6], [], [0, 1, 2, 3, 4, 5, 6, 7, 9], [0, 1, 2, 3, 4, 5, 6, 7, 8, 9, 10]] [[], [], [12], [], [], [1, 3], [], [], [], [], [], []] [[], [], [], [], [], [], [], [], [], [], [9], []] rfl rfl (by kernel_rfl) ?_
      apply GJ.st0 1 rfl
      · intro gh; conv => lhs; simp only [slotsZ, zlAt, vs0, resL, at2, eq_self, Nat.reduceEqDiff, reduceIte, Nat.reduceSub, Nat.reduceAdd, List.cons_append, List.nil_append]
        all_goals rfl
      · intro gh X; conv => lhs; simp only [slotsZ, zlAt, vs0, resL, at2, eq_self, Nat.reduceEqDiff, reduceIte, Nat.reduceSub, Nat.reduceAdd, List.cons_append, List.nil_append]
        all_goals rfl
      · intro gh X; conv => lhs; simp only [slotsZ, zlAt, vs0, resL, at2, eq_self, Nat.reduceEqDiff, reduceIte, Nat.reduceSub, Nat.reduceAdd, List.cons_append, List.nil_append]
        all_goals rfl
      ·
        intro gh X K zq zc zq2 zc2 zb zv hK
        refine J.p (PR.move rfl) rfl ?_
        refine J.nilK ?_
        exact hK zq zc zq2 zc2 zb zv
      ·
        intro gh gh' h
        rfl
      apply GJ.st1 2 rfl
      · intro gh; conv => lhs; simp only [slotsZ, zlAt, vs0, resL, at2, eq_self, Nat.reduceEqDiff, reduceIte, Nat.reduceSub, Nat.reduceAdd, List.cons_append, List.nil_append]
        all_goals rfl
      · intro gh X; conv => lhs; simp only [slotsZ, zlAt, vs0, resL, at2, eq_self, Nat.reduceEqDiff, reduceIte, Nat.reduceSub, Nat.reduceAdd, List.cons_append, List.nil_append]
        all_goals rfl
      · intro gh X; conv => lhs; simp only [slotsZ, zlAt, vs0, resL, at2, eq_self, Nat.reduceEqDiff, reduceIte, Nat.reduceSub, Nat.reduceAdd, List.cons_append, List.nil_append]
        all_goals rfl
      ·
        intro gh X K zq zc zq2 zc2 zb zv hK
        refine J.call fn20 rfl rfl fun w hH => (toInt64S_c hds (by omega) hH).mono ?_
        rintro _ w ⟨qo29, co29, rfl, hH⟩
        refine ⟨_, rfl, fun a hF => J.of hF hH ?_⟩
        refine J.nilK ?_
        exact hK qo29 co29 zq2 zc2 zb zv
      ·
        intro gh gh' h
        refine ⟨?_, ?_⟩ <;> rfl
      apply GJ.st0 3 rfl
      · intro gh; conv => lhs; simp only [slotsZ, zlAt, vs0, resL, at2, eq_self, Nat.reduceEqDiff, reduceIte, Nat.reduceSub, Nat.reduceAdd, List.cons_append, List.nil_append]
        all_goals rfl
      · intro gh X; conv => lhs; simp only [slotsZ, zlAt, vs0, resL, at2, eq_self, Nat.reduceEqDiff, reduceIte, Nat.reduceSub, Nat.reduceAdd, List.cons_append, List.nil_append]
        all_goals rfl
      · intro gh X; conv => lhs; simp only [slotsZ, zlAt, vs0, resL, at2, eq_self, Nat.reduceEqDiff, reduceIte, Nat.reduceSub, Nat.reduceAdd, List.cons_append, List.nil_append]
        all_goals rfl
      ·
        intro gh X K zq zc zq2 zc2 zb zv hK
        refine J.p (PR.loadAll rfl At.z (by simpa [*] using ag25)) rfl ?_
        refine J.nilK ?_
        exact hK zq zc zq2 zc2 zb zv
      ·
        intro gh gh' h
        rfl
      apply GJ.st1 4 rfl
      · intro gh; conv => lhs; simp only [slotsZ, zlAt, vs0, resL, at2, eq_self, Nat.reduceEqDiff, reduceIte, Nat.reduceSub, Nat.reduceAdd, List.cons_append, List.nil_append]
        all_goals rfl
      · intro gh X; conv => lhs; simp only [slotsZ, zlAt, vs0, resL, at2, eq_self, Nat.reduceEqDiff, reduceIte, Nat.reduceSub, Nat.reduceAdd, List.cons_append, List.nil_append]
        all_goals rfl
      · intro gh X; conv => lhs; simp only [slotsZ, zlAt, vs0, resL, at2, eq_self, Nat.reduceEqDiff, reduceIte, Nat.reduceSub, Nat.reduceAdd, List.cons_append, List.nil_append]
        all_goals rfl
      ·
        intro gh X K zq zc zq2 zc2 zb zv hK
        refine J.call fn21 rfl rfl fun w hH => (toForm_c hts (by omega) hH).mono ?_
        rintro _ w ⟨qo31, co31, rfl, hH⟩
        refine ⟨_, rfl, fun a hF => J.of hF hH ?_⟩
        refine J.nilK ?_
        exact hK qo31 co31 zq2 zc2 zb zv
      ·
        intro gh gh' h
        refine ⟨?_, ?_⟩ <;> (first | simp only [h 1 rfl] | rfl)
      apply GJ.st0 5 rfl
      · intro gh; conv => lhs; simp only [slotsZ, zlAt, vs0, resL, at2, eq_self, Nat.reduceEqDiff, reduceIte, Nat.reduceSub, Nat.reduceAdd, List.cons_append, List.nil_append]
        all_goals rfl
      · intro gh X; conv => lhs; simp only [slotsZ, zlAt, vs0, resL, at2, eq_self, Nat.reduceEqDiff, reduceIte, Nat.reduceSub, Nat.reduceAdd, List.cons_append, List.nil_append]
        all_goals rfl
      · intro gh X; conv => lhs; simp only [slotsZ, zlAt, vs0, resL, at2, eq_self, Nat.reduceEqDiff, reduceIte, Nat.reduceSub, Nat.reduceAdd, List.cons_append, List.nil_append]
        all_goals rfl
      ·
        intro gh X K zq zc zq2 zc2 zb zv hK
        refine J.p (PR.move rfl) rfl ?_
        refine J.nilK ?_
        exact hK zq zc zq2 zc2 zb zv
      ·
        intro gh gh' h
        rfl
      apply GJ.st1 6 rfl
      · intro gh; conv => lhs; simp only [slotsZ, zlAt, vs0, resL, at2, eq_self, Nat.reduceEqDiff, reduceIte, Nat.reduceSub, Nat.reduceAdd, List.cons_append, List.nil_append]
        all_goals rfl
      · intro gh X; conv => lhs; simp only [slotsZ, zlAt, vs0, resL, at2, eq_self, Nat.reduceEqDiff, reduceIte, Nat.reduceSub, Nat.reduceAdd, List.cons_append, List.nil_append]
        all_goals rfl
      · intro gh X; conv => lhs; simp only [slotsZ, zlAt, vs0, resL, at2, eq_self, Nat.reduceEqDiff, reduceIte, Nat.reduceSub, Nat.reduceAdd, List.cons_append, List.nil_append]
        all_goals rfl
      ·
        intro gh X K zq zc zq2 zc2 zb zv hK
        refine J.call fn19 rfl rfl fun w hH => hH.lend .z fun Hl1 hle1 hA1 hB1 hH => hH.lend .z fun Hl2 hle2 hA2 hB2 hH => (sPartOfForm_c ((own_ints hA1).le hle2) (own_terms hts.wfs hA2) (by omega) (by omega) hH).mono ?_
        rintro _ w ⟨qo33, co33, rfl, hH⟩
        replace hH := hB2 _ _ hH
        replace hH := hB1 _ _ hH
        refine ⟨_, rfl, fun a hF => J.of hF hH ?_⟩
        refine EJ.front (.s .z) ?_
        refine EJ.front (.s .z) ?_
        refine EJ.front (.s (.s .z)) ?_
        refine J.nilK ?_
        exact hK qo33 co33 zq2 zc2 zb zv
      ·
        intro gh gh' h
        refine ⟨?_, ?_⟩ <;> (first | simp only [h 1 rfl, h 3 rfl] | rfl)
      apply GJ.st0 7 rfl
      · intro gh; conv => lhs; simp only [slotsZ, zlAt, vs0, resL, at2, eq_self, Nat.reduceEqDiff, reduceIte, Nat.reduceSub, Nat.reduceAdd, List.cons_append, List.nil_append]
        all_goals rfl
      · intro gh X; conv => lhs; simp only [slotsZ, zlAt, vs0, resL, at2, eq_self, Nat.reduceEqDiff, reduceIte, Nat.reduceSub, Nat.reduceAdd, List.cons_append, List.nil_append]
        all_goals rfl
      · intro gh X; conv => lhs; simp only [slotsZ, zlAt, vs0, resL, at2, eq_self, Nat.reduceEqDiff, reduceIte, Nat.reduceSub, Nat.reduceAdd, List.cons_append, List.nil_append]
        all_goals rfl
      ·
        intro gh X K zq zc zq2 zc2 zb zv hK
        refine J.p (PR.move rfl) rfl ?_
        refine J.nilK ?_
        exact hK zq zc zq2 zc2 zb zv
      ·
        intro gh gh' h
        first | simp only [h 1 rfl, h 3 rfl, h 5 rfl] | rfl
      apply GJ.st0 8 rfl
      · intro gh; conv => lhs; simp only [slotsZ, zlAt, vs0, resL, at2, eq_self, Nat.reduceEqDiff, reduceIte, Nat.reduceSub, Nat.reduceAdd, List.cons_append, List.nil_append]
        all_goals rfl
      · intro gh X; conv => lhs; simp only [slotsZ, zlAt, vs0, resL, at2, eq_self, Nat.reduceEqDiff, reduceIte, Nat.reduceSub, Nat.reduceAdd, List.cons_append, List.nil_append]
        all_goals rfl
      · intro gh X; conv => lhs; simp only [slotsZ, zlAt, vs0, resL, at2, eq_self, Nat.reduceEqDiff, reduceIte, Nat.reduceSub, Nat.reduceAdd, List.cons_append, List.nil_append]
        all_goals rfl
      ·
        intro gh X K zq zc zq2 zc2 zb zv hK
        refine J.p (PR.extract rfl rfl) rfl ?_
        refine J.nilK ?_
        exact hK zq zc zq2 zc2 zb zv
      ·
        intro gh gh' h
        first | simp only [h 1 rfl, h 3 rfl, h 5 rfl] | rfl
      apply GJ.st0 9 rfl
      · intro gh; conv => lhs; simp only [slotsZ, zlAt, vs0, resL, at2, eq_self, Nat.reduceEqDiff, reduceIte, Nat.reduceSub, Nat.reduceAdd, List.cons_append, List.nil_append]
        all_goals rfl
      · intro gh X; conv => lhs; simp only [slotsZ, zlAt, vs0, resL, at2, eq_self, Nat.reduceEqDiff, reduceIte, Nat.reduceSub, Nat.reduceAdd, List.cons_append, List.nil_append]
        all_goals rfl
      · intro gh X; conv => lhs; simp only [slotsZ, zlAt, vs0, resL, at2, eq_self, Nat.reduceEqDiff, reduceIte, Nat.reduceSub, Nat.reduceAdd, List.cons_append, List.nil_append]
        all_goals rfl
      ·
        intro gh X K zq zc zq2 zc2 zb zv hK
        refine J.p (PR.extract rfl rfl) rfl ?_
        refine J.nilK ?_
        exact hK zq zc zq2 zc2 zb zv
      ·
        intro gh gh' h
        first | simp only [h 1 rfl, h 3 rfl, h 5 rfl] | rfl
      apply GJ.st1 10 rfl
      · intro gh; conv => lhs; simp only [slotsZ, zlAt, vs0, resL, at2, eq_self, Nat.reduceEqDiff, reduceIte, Nat.reduceSub, Nat.reduceAdd, List.cons_append, List.nil_append]
        all_goals rfl
      · intro gh X; conv => lhs; simp only [slotsZ, zlAt, vs0, resL, at2, eq_self, Nat.reduceEqDiff, reduceIte, Nat.reduceSub, Nat.reduceAdd, List.cons_append, List.nil_append]
        all_goals rfl
      · intro gh X; conv => lhs; simp only [slotsZ, zlAt, vs0, resL, at2, eq_self, Nat.reduceEqDiff, reduceIte, Nat.reduceSub, Nat.reduceAdd, List.cons_append, List.nil_append]
        all_goals rfl
      ·
        intro gh X K zq zc zq2 zc2 zb zv hK
        refine J.alloc ze29 rfl fun g8 => ?_
        refine J.nilK ?_
        exact hK zq zc zq2 zc2 g8 zv
      ·
        intro gh gh' h
        refine ⟨?_, ?_⟩ <;> rfl
      apply GJ.sn1 11 rfl
      · intro gh; conv => lhs; simp only [slotsZ, zlAt, vs0, resL, at2, eq_self, Nat.reduceEqDiff, reduceIte, Nat.reduceSub, Nat.reduceAdd, List.cons_append, List.nil_append]
        all_goals rfl
      · intro gh X; conv => lhs; simp only [slotsZ, zlAt, vs0, resL, at2, eq_self, Nat.reduceEqDiff, reduceIte, Nat.reduceSub, Nat.reduceAdd, List.cons_append, List.nil_append]
        all_goals rfl
      · intro gh X; conv => lhs; simp only [slotsZ, zlAt, vs0, resL, at2, eq_self, Nat.reduceEqDiff, reduceIte, Nat.reduceSub, Nat.reduceAdd, List.cons_append, List.nil_append]
        all_goals rfl
      ·
        intro gh X K hK
        refine J.storeAll rfl rfl (by first | exact bytesC_one _ | exact intsC_one _ | exact Term.c_one _ | simp [Value.oneCell']) (by simpa [*] using sz29) (by simp [*]) At.z ?_
        refine J.nilK ?_
        exact hK
      ·
        intro gh gh' h
        first | simp only [h 1 rfl, h 3 rfl, h 5 rfl, h 9 rfl] | rfl
      apply GJ.st0 12 rfl
      · intro gh; conv => lhs; simp only [slotsZ, zlAt, vs0, resL, at2, eq_self, Nat.reduceEqDiff, reduceIte, Nat.reduceSub, Nat.reduceAdd, List.cons_append, List.nil_append]
        all_goals rfl
      · intro gh X; conv => lhs; simp only [slotsZ, zlAt, vs0, resL, at2, eq_self, Nat.reduceEqDiff, reduceIte, Nat.reduceSub, Nat.reduceAdd, List.cons_append, List.nil_append]
        all_goals rfl
      · intro gh X; conv => lhs; simp only [slotsZ, zlAt, vs0, resL, at2, eq_self, Nat.reduceEqDiff, reduceIte, Nat.reduceSub, Nat.reduceAdd, List.cons_append, List.nil_append]
        all_goals rfl
      ·
        intro gh X K zq zc zq2 zc2 zb zv hK
        refine J.p (PR.assign rfl) rfl ?_
        refine J.nilK ?_
        exact hK zq zc zq2 zc2 zb zv
      ·
        intro gh gh' h
        first | simp only [h 1 rfl, h 3 rfl, h 5 rfl, h 9 rfl] | rfl
      apply GJ.close [0, 1, 2, 3, 4, 5, 6, 7, 8, 9, 10, 11] [0, 1, 2, 3, 4, 5, 6, 7, 8, 10, 11, 12] foll0 rfl rfl rfl (by rfl)
      · intro gh; conv => lhs; simp only [slotsZ, zlAt, vs0, resL, at2, eq_self, Nat.reduceEqDiff, reduceIte, Nat.reduceSub, Nat.reduceAdd, List.cons_append, List.nil_append]
        all_goals rfl
      · intro gh; conv => lhs; simp only [slotsZ, zlAt, vs0, resL, at2, eq_self, Nat.reduceEqDiff, reduceIte, Nat.reduceSub, Nat.reduceAdd, List.cons_append, List.nil_append]
        all_goals rfl
      intro gh
      generalize (gh 1).c = co29
      generalize (gh 1).q = qo29
      generalize (gh 3).c = co31
      generalize (gh 3).q = qo31
      generalize (gh 5).c = co33
      generalize (gh 5).q = qo33
      generalize (gh 9).b = g8
      clear gh
      refine EJ.thenN (hK10 ?_)
      refine CJ.seq fun _ hK11 _ => ?_
      refine CJ.region ?_
      refine J.p (PR.move rfl) rfl ?_
      refine J.call fn20 rfl rfl fun w hH => (toInt64S_c hds (by omega) hH).mono ?_
      rintro _ w ⟨qo37, co37, rfl, hH⟩
      refine ⟨_, rfl, fun a hF => J.of hF hH ?_⟩
      refine J.p (PR.assign rfl) rfl ?_
      refine J.nil ?_
      refine EJ.thenN (hK11 ?_)
      refine CJ.seq fun _ hK12 _ => ?_
      refine CJ.region ?_
      refine J.p (PR.loadAll rfl (.s (.s (.s (.s (.s .z))))) (by simpa [*] using ag25)) rfl ?_
      refine J.call fn21 rfl rfl fun w hH => (toForm_c hts (by omega) hH).mono ?_
      rintro _ w ⟨qo39, co39, rfl, hH⟩
      refine ⟨_, rfl, fun a hF => J.of hF hH ?_⟩
      refine J.alloc ze29 rfl fun g11 => ?_
      refine J.storeAll rfl rfl (by first | exact bytesC_one _ | exact intsC_one _ | exact Term.c_one _ | simp [Value.oneCell']) (by simpa [*] using sz29) (by simp [*]) At.z ?_
      refine J.nil ?_
      refine EJ.thenN (hK12 ?_)
      refine CJ.seq fun _ hK13 _ => ?_
      refine CJ.region ?_
      refine J.p (PR.move rfl) rfl ?_
      refine J.p (PR.loadAll rfl At.z (by simpa [*] using ag29)) rfl ?_
      refine J.p (PR.move rfl) rfl ?_
      refine J.call fn22 rfl rfl fun w hH => hH.lend (.s (.s .z)) fun Hl1 hle1 hA1 hB1 hH => hH.lend (.s .z) fun Hl2 hle2 hA2 hB2 hH => (PartOfForm_c ((own_ints hA1).le hle2) (own_terms hts.wfs hA2) (by omega) (by omega) hH).mono ?_
      rintro _ w ⟨qo44, co44, rfl, hH⟩
      replace hH := hB2 _ _ hH
      replace hH := hB1 _ _ hH
      refine ⟨_, rfl, fun a hF => J.of hF hH ?_⟩
      refine J.p (PR.move rfl) rfl ?_
      refine J.p (PR.extract rfl rfl) rfl ?_
      refine J.p (PR.extract rfl rfl) rfl ?_
      refine J.alloc ze29 rfl fun g12 => ?_
      refine J.storeAll rfl rfl (by first | exact bytesC_one _ | exact intsC_one _ | exact Term.c_one _ | simp [Value.oneCell']) (by simpa [*] using sz29) (by simp [*]) At.z ?_
      refine J.p (PR.assign rfl) rfl ?_
      refine J.nil ?_
      refine EJ.thenN (hK13 ?_)
      refine CJ.seq fun _ hK14 _ => ?_
      refine CJ.seq fun _ hK15 _ => ?_
      refine CJ.region ?_
      refine J.p (PR.loadAll rfl At.z (by simpa [*] using ag29)) rfl ?_
      refine J.p (PR.loadAll rfl (.s (.s (.s (.s (.s (.s (.s (.s .z)))))))) (by simpa [*] using ag29)) rfl ?_
      refine J.call fn23 rfl rfl fun w hH => hH.lend (.s (.s (.s .z))) fun Hl1 hle1 hA1 hB1 hH => hH.lend (.s (.s (.s (.s (.s (.s .z)))))) fun Hl2 hle2 hA2 hB2 hH => (eqForm_c ((own_terms (parF_wf hts.wfs.wfs) hA1).le hle2) (own_terms (parF_wf hts.wfs.wfs) hA2) (by omega) hH).mono ?_
      rintro _ w ⟨rfl, hH⟩
      replace hH := hB2 _ _ hH
      replace hH := hB1 _ _ hH
      refine ⟨_, rfl, fun a hF => J.of hF hH ?_⟩
      refine J.p (PR.not rfl) rfl ?_
      refine J.p (PR.move rfl) rfl ?_
      refine J.splitB (jd := 51) rfl (fun hg51 => ?_) (fun hg51 => ?_)
      ·
        try have hg51p := of_decide_eq_true hg51
        refine J.gn rfl rfl rfl hg51 ?_
        refine J.gn rfl rfl rfl hg51 ?_
        refine J.gn rfl rfl rfl hg51 ?_
        refine J.p (PR.pickT rfl hg51 rfl) rfl ?_
        refine J.nil ?_
        refine EJ.thenN (hK15 ?_)
        refine CJ.condT rfl ?_
        refine CJ.seq fun _ hK16 _ => ?_
        refine CJ.region ?_
        refine J.p (PR.assign rfl) rfl ?_
        refine J.nil ?_
        refine EJ.thenN (hK16 ?_)
        refine CJ.ret ?_
        refine EJ.thenR ?_
        refine EJ.ret1 rfl (Res.tmp rfl) fun w hH => ?_
        replace hH := hH.tail
        replace hH := hH.tail
        replace hH := hH.tail
        replace hH := hH.tail
        replace hH := hH.tail
        replace hH := hH.tail
        replace hH := hH.tail
        replace hH := hH.tail
        replace hH := hH.tail
        replace hH := hH.tail
        first | exact ⟨rfl, hH.below⟩ | exact absurd rfl hg51p | exact absurd rfl hg51 | (exfalso; omega) | (simp at hg51; done)
      ·
        try have hg51p := of_decide_eq_false hg51
        refine J.gy (PR.move rfl) rfl rfl rfl hg51 ?_
        refine J.gy (PR.move rfl) rfl rfl rfl hg51 ?_
        refine J.gy (PR.neq rfl rfl) rfl rfl rfl hg51 ?_
        refine J.p (PR.pickF rfl hg51 rfl) rfl ?_
        refine J.nil ?_
        refine EJ.thenN (hK15 ?_)
        refine CJ.condD rfl (fun hc55 => ?_) (fun hc55 => ?_)
        ·
          refine CJ.seq fun _ hK17 _ => ?_
          refine CJ.region ?_
          refine J.p (PR.assign rfl) rfl ?_
          refine J.nil ?_
          refine EJ.thenN (hK17 ?_)
          refine CJ.ret ?_
          refine EJ.thenR ?_
          refine EJ.ret1 rfl (Res.tmp rfl) fun w hH => ?_
          replace hH := hH.tail
          replace hH := hH.tail
          replace hH := hH.tail
          replace hH := hH.tail
          replace hH := hH.tail
          replace hH := hH.tail
          replace hH := hH.tail
          replace hH := hH.tail
          replace hH := hH.tail
          replace hH := hH.tail
          first | exact ⟨rfl, hH.below⟩ | exact absurd rfl hc55p | exact absurd rfl hc55 | (exfalso; omega) | (simp at hc55; done)
        ·
          refine CJ.skip ?_
          refine EJ.thenN (hK14 ?_)
          refine CJ.seq fun _ hK18 _ => ?_
          refine CJ.seq fun _ hK19 _ => ?_
          refine CJ.region ?_
          refine J.p (PR.move rfl) rfl ?_
          refine J.p (PR.move rfl) rfl ?_
          refine J.call fn20 rfl rfl fun w hH => (toInt64S_c hds (by omega) hH).mono ?_
          rintro _ w ⟨qo58, co58, rfl, hH⟩
          refine ⟨_, rfl, fun a hF => J.of hF hH ?_⟩
          refine J.call fn24 rfl rfl fun w hH => hH.lend (.s (.s (.s (.s .z)))) fun Hl1 hle1 hA1 hB1 hH => hH.lend .z fun Hl2 hle2 hA2 hB2 hH => (eqInt64S_c ((own_ints hA1).le hle2) (own_ints hA2) (by omega) hH).mono ?_
          rintro _ w ⟨rfl, hH⟩
          replace hH := hB2 _ _ hH
          replace hH := hB1 _ _ hH
          refine ⟨_, rfl, fun a hF => J.of hF hH ?_⟩
          refine J.p (PR.not rfl) rfl ?_
          refine J.nil ?_
          refine EJ.thenN (hK19 ?_)
          refine CJ.cond rfl (fun hc60 => ?_) (fun hc60 => ?_)
          ·
            refine CJ.seq fun _ hK20 _ => ?_
            refine CJ.region ?_
            refine J.p (PR.assign rfl) rfl ?_
            refine J.nil ?_
            refine EJ.thenN (hK20 ?_)
            refine CJ.ret ?_
            refine EJ.thenR ?_
            refine EJ.ret1 rfl (Res.tmp rfl) fun w hH => ?_
            replace hH := hH.tail
            replace hH := hH.tail
            replace hH := hH.tail
            replace hH := hH.tail
            replace hH := hH.tail
            replace hH := hH.tail
            replace hH := hH.tail
            replace hH := hH.tail
            replace hH := hH.tail
            replace hH := hH.tail
            replace hH := hH.tail
            first | exact ⟨rfl, hH.below⟩ | exact absurd rfl hc60p | exact absurd rfl hc60 | (exfalso; omega) | (simp at hc60; done)
          ·
            refine CJ.skip ?_
            refine EJ.thenN (hK18 ?_)
            refine CJ.seq fun _ hK21 _ => ?_
            refine CJ.seq fun _ hK22 _ => ?_
            refine CJ.head [[], [], [1]] (by kernel_rfl) ?_
            refine HJ.op (fun gh => PR.loadAll rfl (.s (.s (.s (.s (.s (.s .z)))))) (by simpa [*] using ag29)) ?_
            refine HJ.op (fun gh => PR.loadAll rfl (.s (.s (.s (.s (.s (.s (.s (.s (.s (.s .z)))))))))) (by simpa [*] using ag25)) ?_
            refine HJ.callN fn21 (fun gh => rfl) (fun w X hH => toForm_c hts (by omega) hH) ?_
            refine HJ.close 3 1 foll0 (by kernel_rfl) rfl rfl fun gh => ?_
            refine J.conv (us' := (61, _) :: (62, _) :: (63, _) :: _) (L' := _ :: _) rfl rfl ?_
            refine J.call fn23 rfl rfl fun w hH => hH.lend (.s (.s (.s (.s (.s (.s .z)))))) fun Hl1 hle1 hA1 hB1 hH => hH.lend .z fun Hl2 hle2 hA2 hB2 hH => (eqForm_c ((own_terms hts.wfs hA1).le hle2) (own_terms hts.wfs hA2) (by omega) hH).mono ?_
            rintro _ w ⟨rfl, hH⟩
            replace hH := hB2 _ _ hH
            replace hH := hB1 _ _ hH
            refine ⟨_, rfl, fun a hF => J.of hF hH ?_⟩
            refine J.nil ?_
            refine EJ.still ?_
            refine JS.op (PR.not rfl) rfl ?_
            refine JS.nil ?_
            refine EJ.thenN (hK22 ?_)
            refine CJ.cond rfl (fun hc65 => ?_) (fun hc65 => ?_)
            ·
              refine CJ.seq fun _ hK23 _ => ?_
              refine CJ.region ?_
              refine J.p (PR.assign rfl) rfl ?_
              refine J.nil ?_
              refine EJ.thenN (hK23 ?_)
              refine CJ.ret ?_
              refine EJ.thenR ?_
              refine EJ.ret1 rfl (Res.tmp rfl) fun w hH => ?_
              replace hH := hH.tail
              replace hH := hH.tail
              replace hH := hH.tail
              replace hH := hH.tail
              replace hH := hH.tail
              replace hH := hH.tail
              replace hH := hH.tail
              replace hH := hH.tail
              replace hH := hH.tail
              replace hH := hH.tail
              replace hH := hH.tail
              replace hH := hH.tail
              first | exact ⟨rfl, hH.below⟩ | exact absurd rfl hc65p | exact absurd rfl hc65 | (exfalso; omega) | (simp at hc65; done)
            ·
              refine CJ.skip ?_
              refine EJ.thenN (hK21 ?_)
              refine CJ.seq fun _ hK24 _ => ?_
              refine CJ.region ?_
              refine J.p (PR.assign rfl) rfl ?_
              refine J.nil ?_
              refine EJ.thenN (hK24 ?_)
              refine CJ.seq fun _ hK25 _ => ?_
              refine CJ.region ?_
              refine J.p (PR.move rfl) rfl ?_
              refine J.p (PR.move rfl) rfl ?_
              refine J.call fn25 rfl rfl fun w hH => (markInt64S_c (by omega) (hH.front (.s (.s .z)))).mono ?_
              rintro _ w ⟨rfl, hH⟩
              refine ⟨_, rfl, fun a hF => J.of hF hH ?_⟩
              refine J.p (PR.assign rfl) rfl ?_
              refine J.nil ?_
              refine EJ.thenN (hK25 ?_)
              refine CJ.seq fun _ hK26 _ => ?_
              refine CJ.region ?_
              refine J.p (PR.loadAll rfl (.s (.s (.s (.s (.s (.s (.s .z))))))) (by simpa [*] using ag29)) rfl ?_
              refine J.p (PR.move rfl) rfl ?_
              refine J.call fn26 rfl rfl fun w hH => (markForm_c (by omega) (hH.front (.s .z))).mono ?_
              rintro _ w ⟨rfl, hH⟩
              refine ⟨_, rfl, fun a hF => J.of hF hH ?_⟩
              refine J.p (PR.assign rfl) rfl ?_
              refine J.nil ?_
              refine EJ.thenN (hK26 ?_)
              refine CJ.seq fun _ hK27 _ => ?_
              refine CJ.seq fun _ hK28 _ => ?_
              refine CJ.region ?_
              refine J.p (PR.move rfl) rfl ?_
              refine J.p (PR.lss rfl rfl) rfl ?_
              refine J.p (PR.move rfl) rfl ?_
              refine J.splitB (jd := 74) rfl (fun hg74 => ?_) (fun hg74 => ?_)
              ·
                try have hg74p := of_decide_eq_true hg74
                refine J.gn rfl rfl rfl hg74 ?_
                refine J.gn rfl rfl rfl hg74 ?_
                refine J.gn rfl rfl rfl hg74 ?_
                refine J.gn rfl rfl rfl hg74 ?_
                refine J.p (PR.pickT rfl hg74 rfl) rfl ?_
                refine J.p (PR.move rfl) rfl ?_
                refine J.gn rfl rfl rfl rfl ?_
                refine J.gn rfl rfl rfl rfl ?_
                refine J.gn rfl rfl rfl rfl ?_
                refine J.p (PR.pickT rfl rfl rfl) rfl ?_
                refine J.nil ?_
                refine EJ.thenN (hK28 ?_)
                refine CJ.condT rfl ?_
                refine CJ.seq fun _ hK29 _ => ?_
                refine CJ.region ?_
                refine J.p (PR.assign rfl) rfl ?_
                refine J.nil ?_
                refine EJ.thenN (hK29 ?_)
                refine CJ.ret ?_
                refine EJ.thenR ?_
                refine EJ.ret1 rfl (Res.tmp rfl) fun w hH => ?_
                replace hH := hH.tail
                replace hH := hH.tail
                replace hH := hH.tail
                replace hH := hH.tail
                replace hH := hH.tail
                replace hH := hH.tail
                replace hH := hH.tail
                replace hH := hH.tail
                replace hH := hH.tail
                replace hH := hH.tail
                replace hH := hH.tail
                replace hH := hH.tail
                first | exact ⟨rfl, hH.below⟩ | exact absurd rfl hg74p | exact absurd rfl hg74 | (exfalso; omega) | (simp at hg74; done)
              ·
                try have hg74p := of_decide_eq_false hg74
                refine J.gy (PR.loadAll rfl (.s (.s (.s (.s (.s (.s .z)))))) (by simpa [*] using ag29)) rfl rfl rfl hg74 ?_
                refine J.gy (PR.loadAll rfl (.s (.s (.s (.s (.s (.s (.s (.s (.s (.s .z)))))))))) (by simpa [*] using ag29)) rfl rfl rfl hg74 ?_
                refine J.gcall fn23 rfl rfl hg74 rfl rfl fun w hH => hH.lend (.s (.s (.s (.s .z)))) fun Hl1 hle1 hA1 hB1 hH => hH.lend (.s (.s (.s (.s .z)))) fun Hl2 hle2 hA2 hB2 hH => (eqForm_c ((own_terms (parF_wf hts.wfs.wfs) hA1).le hle2) (own_terms (parF_wf hts.wfs.wfs) hA2) (by omega) hH).mono ?_
                rintro _ w ⟨rfl, hH⟩
                replace hH := hB2 _ _ hH
                replace hH := hB1 _ _ hH
                refine ⟨_, rfl, fun a hF => J.of hF hH ?_⟩
                refine J.gy (PR.not rfl) rfl rfl rfl hg74 ?_
                refine J.p (PR.pickF rfl hg74 rfl) rfl ?_
                refine J.p (PR.move rfl) rfl ?_
                refine J.splitB (jd := 80) rfl (fun hg80 => ?_) (fun hg80 => ?_)
                ·
                  try have hg80p := of_decide_eq_true hg80
                  refine J.gn rfl rfl rfl hg80 ?_
                  refine J.gn rfl rfl rfl hg80 ?_
                  refine J.gn rfl rfl rfl hg80 ?_
                  refine J.p (PR.pickT rfl hg80 rfl) rfl ?_
                  refine J.nil ?_
                  refine EJ.thenN (hK28 ?_)
                  refine CJ.condT rfl ?_
                  refine CJ.seq fun _ hK30 _ => ?_
                  refine CJ.region ?_
                  refine J.p (PR.assign rfl) rfl ?_
                  refine J.nil ?_
                  refine EJ.thenN (hK30 ?_)
                  refine CJ.ret ?_
                  refine EJ.thenR ?_
                  refine EJ.ret1 rfl (Res.tmp rfl) fun w hH => ?_
                  replace hH := hH.tail
                  replace hH := hH.tail
                  replace hH := hH.tail
                  replace hH := hH.tail
                  replace hH := hH.tail
                  replace hH := hH.tail
                  replace hH := hH.tail
                  replace hH := hH.tail
                  replace hH := hH.tail
                  replace hH := hH.tail
                  replace hH := hH.tail
                  replace hH := hH.tail
                  first | exact ⟨rfl, hH.below⟩ | exact absurd rfl hg80p | exact absurd rfl hg80 | (exfalso; omega) | (simp at hg80; done)
                ·
                  try have hg80p := of_decide_eq_false hg80
                  refine J.gy (PR.move rfl) rfl rfl rfl hg80 ?_
                  refine J.gy (PR.move rfl) rfl rfl rfl hg80 ?_
                  refine J.gy (PR.neq rfl rfl) rfl rfl rfl hg80 ?_
                  refine J.p (PR.pickF rfl hg80 rfl) rfl ?_
                  refine J.nil ?_
                  refine EJ.thenN (hK28 ?_)
                  refine CJ.condD rfl (fun hc84 => ?_) (fun hc84 => ?_)
                  ·
                    refine CJ.seq fun _ hK31 _ => ?_
                    refine CJ.region ?_
                    refine J.p (PR.assign rfl) rfl ?_
                    refine J.nil ?_
                    refine EJ.thenN (hK31 ?_)
                    refine CJ.ret ?_
                    refine EJ.thenR ?_
                    refine EJ.ret1 rfl (Res.tmp rfl) fun w hH => ?_
                    replace hH := hH.tail
                    replace hH := hH.tail
                    replace hH := hH.tail
                    replace hH := hH.tail
                    replace hH := hH.tail
                    replace hH := hH.tail
                    replace hH := hH.tail
                    replace hH := hH.tail
                    replace hH := hH.tail
                    replace hH := hH.tail
                    replace hH := hH.tail
                    replace hH := hH.tail
                    first | exact ⟨rfl, hH.below⟩ | exact absurd rfl hc84p | exact absurd rfl hc84 | (exfalso; omega) | (simp at hc84; done)
                  ·
                    refine CJ.skip ?_
                    refine EJ.thenN (hK27 ?_)
                    refine CJ.seq fun _ hK32 _ => ?_
                    refine CJ.region ?_
                    refine J.p (PR.assign rfl) rfl ?_
                    refine J.nil ?_
                    refine EJ.thenN (hK32 ?_)
                    refine CJ.seq fun _ hK33 _ => ?_
                    refine CJ.region ?_
                    refine J.p (PR.loadAll rfl (.s (.s (.s (.s (.s (.s .z)))))) (by simpa [*] using ag29)) rfl ?_
                    refine J.p (PR.move rfl) rfl ?_
                    refine J.call fn26 rfl rfl fun w hH => (markForm_c (by omega) (hH.front .z)).mono ?_
                    rintro _ w ⟨rfl, hH⟩
                    refine ⟨_, rfl, fun a hF => J.of hF hH ?_⟩
                    refine J.p (PR.assign rfl) rfl ?_
                    refine J.nil ?_
                    refine EJ.thenN (hK33 ?_)
                    refine CJ.seq fun _ hK34 _ => ?_
                    refine CJ.region ?_
                    refine J.p (PR.assign rfl) rfl ?_
                    refine J.nil ?_
                    refine EJ.thenN (hK34 ?_)
                    refine CJ.seq fun _ hK35 _ => ?_
                    refine CJ.region ?_
                    refine J.p (PR.loadAll rfl (.s (.s (.s (.s (.s (.s .z)))))) (by simpa [*] using ag29)) rfl ?_
                    refine J.p (PR.move rfl) rfl ?_
                    refine J.call fn27 rfl rfl fun w hH => hH.lend .z fun Hl1 hle1 hA1 hB1 hH => (heldForm_c (own_mterms (by omega) hA1) (by omega) hH).mono ?_
                    rintro _ w ⟨rfl, hH⟩
                    replace hH := hB1 _ _ hH
                    refine ⟨_, rfl, fun a hF => J.of hF hH ?_⟩
                    refine J.p (PR.assign rfl) rfl ?_
                    refine J.nil ?_
                    refine EJ.thenN (hK35 ?_)
                    refine CJ.seq fun _ hK36 _ => ?_
                    refine CJ.seq fun _ hK37 _ => ?_
                    refine CJ.region ?_
                    refine J.p (PR.move rfl) rfl ?_
                    refine J.p (PR.lss rfl rfl) rfl ?_
                    refine J.nil ?_
                    refine EJ.thenN (hK37 ?_)
                    refine CJ.condD rfl (fun hc92 => ?_) (fun hc92 => ?_)
                    ·
                      refine CJ.seq fun _ hK38 _ => ?_
                      refine CJ.region ?_
                      refine J.p (PR.assign rfl) rfl ?_
                      refine J.nil ?_
                      refine EJ.thenN (hK38 ?_)
                      refine CJ.ret ?_
                      refine EJ.thenR ?_
                      refine EJ.ret1 rfl (Res.tmp rfl) fun w hH => ?_
                      replace hH := hH.tail
                      replace hH := hH.tail
                      replace hH := hH.tail
                      replace hH := hH.tail
                      replace hH := hH.tail
                      replace hH := hH.tail
                      replace hH := hH.tail
                      replace hH := hH.tail
                      replace hH := hH.tail
                      replace hH := hH.tail
                      replace hH := hH.tail
                      replace hH := hH.tail
                      first | exact ⟨rfl, hH.below⟩ | exact absurd rfl hc92p | exact absurd rfl hc92 | (exfalso; omega) | (simp at hc92; done)
                    ·
                      refine CJ.skip ?_
                      refine EJ.thenN (hK36 ?_)
                      refine CJ.seq fun _ hK39 _ => ?_
                      refine CJ.seq fun _ hK40 _ => ?_
                      refine CJ.region ?_
                      refine J.p (PR.move rfl) rfl ?_
                      refine J.p (PR.move rfl) rfl ?_
                      refine J.p (PR.neq rfl rfl) rfl ?_
                      refine J.nil ?_
                      refine EJ.thenN (hK40 ?_)
                      refine CJ.condD rfl (fun hc95 => ?_) (fun hc95 => ?_)
                      ·
                        refine CJ.seq fun _ hK41 _ => ?_
                        refine CJ.region ?_
                        refine J.p (PR.assign rfl) rfl ?_
                        refine J.nil ?_
                        refine EJ.thenN (hK41 ?_)
                        refine CJ.ret ?_
                        refine EJ.thenR ?_
                        refine EJ.ret1 rfl (Res.tmp rfl) fun w hH => ?_
                        replace hH := hH.tail
                        replace hH := hH.tail
                        replace hH := hH.tail
                        replace hH := hH.tail
                        replace hH := hH.tail
                        replace hH := hH.tail
                        replace hH := hH.tail
                        replace hH := hH.tail
                        replace hH := hH.tail
                        replace hH := hH.tail
                        replace hH := hH.tail
                        replace hH := hH.tail
                        first | exact ⟨rfl, hH.below⟩ | exact absurd rfl hc95p | exact absurd rfl hc95 | (exfalso; omega) | (simp at hc95; done)
                      ·
                        refine CJ.skip ?_
                        refine EJ.thenN (hK39 ?_)
                        refine CJ.seq fun _ hK42 _ => ?_
                        refine CJ.openR (Rs := [_, _, _, _, _, _, _, _, _, _, _, _]) 12 [[], [0], [], [0, 1, 2], [], [0, 1, 2, 3, 4], [0, 1, 2, 3, 4, 5], [0, 1, 2, 3, 4, 5, 6], [0, 1, 2, 3, 4, 5, 6], [], [0, 1, 2, 3, 4, 5, 6, 7, 9], [0, 1, 2, 3, 4, 5, 6, 7, 8, 9, 10]] [[], [], [23], [], [], [1, 3], [], [], [], [], [], []] [[], [], [], [], [], [], [], [], [], [], [9], []] rfl rfl (by kernel_rfl) ?_
                        apply GJ.st0 1 rfl
                        · intro gh; conv => lhs; simp only [slotsZ, zlAt, vs0, resL, at2, eq_self, Nat.reduceEqDiff, reduceIte, Nat.reduceSub, Nat.reduceAdd, List.cons_append, List.nil_append]
                          all_goals rfl
                        · intro gh X; conv => lhs; simp only [slotsZ, zlAt, vs0, resL, at2, eq_self, Nat.reduceEqDiff, reduceIte, Nat.reduceSub, Nat.reduceAdd, List.cons_append, List.nil_append]
                          all_goals rfl
                        · intro gh X; conv => lhs; simp only [slotsZ, zlAt, vs0, resL, at2, eq_self, Nat.reduceEqDiff, reduceIte, Nat.reduceSub, Nat.reduceAdd, List.cons_append, List.nil_append]
                          all_goals rfl
                        ·
                          intro gh X K zq zc zq2 zc2 zb zv hK
                          refine J.p (PR.move rfl) rfl ?_
                          refine J.nilK ?_
                          exact hK zq zc zq2 zc2 zb zv
                        ·
                          intro gh gh' h
                          rfl
                        apply GJ.st1 2 rfl
                        · intro gh; conv => lhs; simp only [slotsZ, zlAt, vs0, resL, at2, eq_self, Nat.reduceEqDiff, reduceIte, Nat.reduceSub, Nat.reduceAdd, List.cons_append, List.nil_append]
                          all_goals rfl
                        · intro gh X; conv => lhs; simp only [slotsZ, zlAt, vs0, resL, at2, eq_self, Nat.reduceEqDiff, reduceIte, Nat.reduceSub, Nat.reduceAdd, List.cons_append, List.nil_append]
                          all_goals rfl
                        · intro gh X; conv => lhs; simp only [slotsZ, zlAt, vs0, resL, at2, eq_self, Nat.reduceEqDiff, reduceIte, Nat.reduceSub, Nat.reduceAdd, List.cons_append, List.nil_append]
                          all_goals rfl
                        ·
                          intro gh X K zq zc zq2 zc2 zb zv hK
                          refine J.call fn20 rfl rfl fun w hH => (toInt64S_c hds (by omega) hH).mono ?_
                          rintro _ w ⟨qo98, co98, rfl, hH⟩
                          refine ⟨_, rfl, fun a hF => J.of hF hH ?_⟩
                          refine J.nilK ?_
                          exact hK qo98 co98 zq2 zc2 zb zv
                        ·
                          intro gh gh' h
                          refine ⟨?_, ?_⟩ <;> rfl
                        apply GJ.st0 3 rfl
                        · intro gh; conv => lhs; simp only [slotsZ, zlAt, vs0, resL, at2, eq_self, Nat.reduceEqDiff, reduceIte, Nat.reduceSub, Nat.reduceAdd, List.cons_append, List.nil_append]
                          all_goals rfl
                        · intro gh X; conv => lhs; simp only [slotsZ, zlAt, vs0, resL, at2, eq_self, Nat.reduceEqDiff, reduceIte, Nat.reduceSub, Nat.reduceAdd, List.cons_append, List.nil_append]
                          all_goals rfl
                        · intro gh X; conv => lhs; simp only [slotsZ, zlAt, vs0, resL, at2, eq_self, Nat.reduceEqDiff, reduceIte, Nat.reduceSub, Nat.reduceAdd, List.cons_append, List.nil_append]
                          all_goals rfl
                        ·
                          intro gh X K zq zc zq2 zc2 zb zv hK
                          refine J.p (PR.loadAll rfl At.z (by simpa [*] using ag25)) rfl ?_
                          refine J.nilK ?_
                          exact hK zq zc zq2 zc2 zb zv
                        ·
                          intro gh gh' h
                          rfl
                        apply GJ.st1 4 rfl
                        · intro gh; conv => lhs; simp only [slotsZ, zlAt, vs0, resL, at2, eq_self, Nat.reduceEqDiff, reduceIte, Nat.reduceSub, Nat.reduceAdd, List.cons_append, List.nil_append]
                          all_goals rfl
                        · intro gh X; conv => lhs; simp only [slotsZ, zlAt, vs0, resL, at2, eq_self, Nat.reduceEqDiff, reduceIte, Nat.reduceSub, Nat.reduceAdd, List.cons_append, List.nil_append]
                          all_goals rfl
                        · intro gh X; conv => lhs; simp only [slotsZ, zlAt, vs0, resL, at2, eq_self, Nat.reduceEqDiff, reduceIte, Nat.reduceSub, Nat.reduceAdd, List.cons_append, List.nil_append]
                          all_goals rfl
                        ·
                          intro gh X K zq zc zq2 zc2 zb zv hK
                          refine J.call fn21 rfl rfl fun w hH => (toForm_c hts (by omega) hH).mono ?_
                          rintro _ w ⟨qo100, co100, rfl, hH⟩
                          refine ⟨_, rfl, fun a hF => J.of hF hH ?_⟩
                          refine J.nilK ?_
                          exact hK qo100 co100 zq2 zc2 zb zv
                        ·
                          intro gh gh' h
                          refine ⟨?_, ?_⟩ <;> (first | simp only [h 1 rfl] | rfl)
                        apply GJ.st0 5 rfl
                        · intro gh; conv => lhs; simp only [slotsZ, zlAt, vs0, resL, at2, eq_self, Nat.reduceEqDiff, reduceIte, Nat.reduceSub, Nat.reduceAdd, List.cons_append, List.nil_append]
                          all_goals rfl
                        · intro gh X; conv => lhs; simp only [slotsZ, zlAt, vs0, resL, at2, eq_self, Nat.reduceEqDiff, reduceIte, Nat.reduceSub, Nat.reduceAdd, List.cons_append, List.nil_append]
                          all_goals rfl
                        · intro gh X; conv => lhs; simp only [slotsZ, zlAt, vs0, resL, at2, eq_self, Nat.reduceEqDiff, reduceIte, Nat.reduceSub, Nat.reduceAdd, List.cons_append, List.nil_append]
                          all_goals rfl
                        ·
                          intro gh X K zq zc zq2 zc2 zb zv hK
                          refine J.p (PR.move rfl) rfl ?_
                          refine J.nilK ?_
                          exact hK zq zc zq2 zc2 zb zv
                        ·
                          intro gh gh' h
                          rfl
                        apply GJ.st1 6 rfl
                        · intro gh; conv => lhs; simp only [slotsZ, zlAt, vs0, resL, at2, eq_self, Nat.reduceEqDiff, reduceIte, Nat.reduceSub, Nat.reduceAdd, List.cons_append, List.nil_append]
                          all_goals rfl
                        · intro gh X; conv => lhs; simp only [slotsZ, zlAt, vs0, resL, at2, eq_self, Nat.reduceEqDiff, reduceIte, Nat.reduceSub, Nat.reduceAdd, List.cons_append, List.nil_append]
                          all_goals rfl
                        · intro gh X; conv => lhs; simp only [slotsZ, zlAt, vs0, resL, at2, eq_self, Nat.reduceEqDiff, reduceIte, Nat.reduceSub, Nat.reduceAdd, List.cons_append, List.nil_append]
                          all_goals rfl
                        ·
                          intro gh X K zq zc zq2 zc2 zb zv hK
                          refine J.call fn22 rfl rfl fun w hH => hH.lend .z fun Hl1 hle1 hA1 hB1 hH => hH.lend .z fun Hl2 hle2 hA2 hB2 hH => (PartOfForm_c ((own_ints hA1).le hle2) (own_terms hts.wfs hA2) (by omega) (by omega) hH).mono ?_
                          rintro _ w ⟨qo102, co102, rfl, hH⟩
                          replace hH := hB2 _ _ hH
                          replace hH := hB1 _ _ hH
                          refine ⟨_, rfl, fun a hF => J.of hF hH ?_⟩
                          refine EJ.front (.s .z) ?_
                          refine EJ.front (.s .z) ?_
                          refine EJ.front (.s (.s .z)) ?_
                          refine J.nilK ?_
                          exact hK qo102 co102 zq2 zc2 zb zv
                        ·
                          intro gh gh' h
                          refine ⟨?_, ?_⟩ <;> (first | simp only [h 1 rfl, h 3 rfl] | rfl)
                        apply GJ.st0 7 rfl
                        · intro gh; conv => lhs; simp only [slotsZ, zlAt, vs0, resL, at2, eq_self, Nat.reduceEqDiff, reduceIte, Nat.reduceSub, Nat.reduceAdd, List.cons_append, List.nil_append]
                          all_goals rfl
                        · intro gh X; conv => lhs; simp only [slotsZ, zlAt, vs0, resL, at2, eq_self, Nat.reduceEqDiff, reduceIte, Nat.reduceSub, Nat.reduceAdd, List.cons_append, List.nil_append]
                          all_goals rfl
                        · intro gh X; conv => lhs; simp only [slotsZ, zlAt, vs0, resL, at2, eq_self, Nat.reduceEqDiff, reduceIte, Nat.reduceSub, Nat.reduceAdd, List.cons_append, List.nil_append]
                          all_goals rfl
                        ·
                          intro gh X K zq zc zq2 zc2 zb zv hK
                          refine J.p (PR.move rfl) rfl ?_
                          refine J.nilK ?_
                          exact hK zq zc zq2 zc2 zb zv
                        ·
                          intro gh gh' h
                          first | simp only [h 1 rfl, h 3 rfl, h 5 rfl] | rfl
                        apply GJ.st0 8 rfl
                        · intro gh; conv => lhs; simp only [slotsZ, zlAt, vs0, resL, at2, eq_self, Nat.reduceEqDiff, reduceIte, Nat.reduceSub, Nat.reduceAdd, List.cons_append, List.nil_append]
                          all_goals rfl
                        · intro gh X; conv => lhs; simp only [slotsZ, zlAt, vs0, resL, at2, eq_self, Nat.reduceEqDiff, reduceIte, Nat.reduceSub, Nat.reduceAdd, List.cons_append, List.nil_append]
                          all_goals rfl
                        · intro gh X; conv => lhs; simp only [slotsZ, zlAt, vs0, resL, at2, eq_self, Nat.reduceEqDiff, reduceIte, Nat.reduceSub, Nat.reduceAdd, List.cons_append, List.nil_append]
                          all_goals rfl
                        ·
                          intro gh X K zq zc zq2 zc2 zb zv hK
                          refine J.p (PR.extract rfl rfl) rfl ?_
                          refine J.nilK ?_
                          exact hK zq zc zq2 zc2 zb zv
                        ·
                          intro gh gh' h
                          first | simp only [h 1 rfl, h 3 rfl, h 5 rfl] | rfl
                        apply GJ.st0 9 rfl
                        · intro gh; conv => lhs; simp only [slotsZ, zlAt, vs0, resL, at2, eq_self, Nat.reduceEqDiff, reduceIte, Nat.reduceSub, Nat.reduceAdd, List.cons_append, List.nil_append]
                          all_goals rfl
                        · intro gh X; conv => lhs; simp only [slotsZ, zlAt, vs0, resL, at2, eq_self, Nat.reduceEqDiff, reduceIte, Nat.reduceSub, Nat.reduceAdd, List.cons_append, List.nil_append]
                          all_goals rfl
                        · intro gh X; conv => lhs; simp only [slotsZ, zlAt, vs0, resL, at2, eq_self, Nat.reduceEqDiff, reduceIte, Nat.reduceSub, Nat.reduceAdd, List.cons_append, List.nil_append]
                          all_goals rfl
                        ·
                          intro gh X K zq zc zq2 zc2 zb zv hK
                          refine J.p (PR.extract rfl rfl) rfl ?_
                          refine J.nilK ?_
                          exact hK zq zc zq2 zc2 zb zv
                        ·
                          intro gh gh' h
                          first | simp only [h 1 rfl, h 3 rfl, h 5 rfl] | rfl
                        apply GJ.st1 10 rfl
                        · intro gh; conv => lhs; simp only [slotsZ, zlAt, vs0, resL, at2, eq_self, Nat.reduceEqDiff, reduceIte, Nat.reduceSub, Nat.reduceAdd, List.cons_append, List.nil_append]
                          all_goals rfl
                        · intro gh X; conv => lhs; simp only [slotsZ, zlAt, vs0, resL, at2, eq_self, Nat.reduceEqDiff, reduceIte, Nat.reduceSub, Nat.reduceAdd, List.cons_append, List.nil_append]
                          all_goals rfl
                        · intro gh X; conv => lhs; simp only [slotsZ, zlAt, vs0, resL, at2, eq_self, Nat.reduceEqDiff, reduceIte, Nat.reduceSub, Nat.reduceAdd, List.cons_append, List.nil_append]
                          all_goals rfl
                        ·
                          intro gh X K zq zc zq2 zc2 zb zv hK
                          refine J.alloc ze29 rfl fun g17 => ?_
                          refine J.nilK ?_
                          exact hK zq zc zq2 zc2 g17 zv
                        ·
                          intro gh gh' h
                          refine ⟨?_, ?_⟩ <;> rfl
                        apply GJ.sn1 11 rfl
                        · intro gh; conv => lhs; simp only [slotsZ, zlAt, vs0, resL, at2, eq_self, Nat.reduceEqDiff, reduceIte, Nat.reduceSub, Nat.reduceAdd, List.cons_append, List.nil_append]
                          all_goals rfl
                        · intro gh X; conv => lhs; simp only [slotsZ, zlAt, vs0, resL, at2, eq_self, Nat.reduceEqDiff, reduceIte, Nat.reduceSub, Nat.reduceAdd, List.cons_append, List.nil_append]
                          all_goals rfl
                        · intro gh X; conv => lhs; simp only [slotsZ, zlAt, vs0, resL, at2, eq_self, Nat.reduceEqDiff, reduceIte, Nat.reduceSub, Nat.reduceAdd, List.cons_append, List.nil_append]
                          all_goals rfl
                        ·
                          intro gh X K hK
                          refine J.storeAll rfl rfl (by first | exact bytesC_one _ | exact intsC_one _ | exact Term.c_one _ | simp [Value.oneCell']) (by simpa [*] using sz29) (by simp [*]) At.z ?_
                          refine J.nilK ?_
                          exact hK
                        ·
                          intro gh gh' h
                          first | simp only [h 1 rfl, h 3 rfl, h 5 rfl, h 9 rfl] | rfl
                        apply GJ.st0 12 rfl
                        · intro gh; conv => lhs; simp only [slotsZ, zlAt, vs0, resL, at2, eq_self, Nat.reduceEqDiff, reduceIte, Nat.reduceSub, Nat.reduceAdd, List.cons_append, List.nil_append]
                          all_goals rfl
                        · intro gh X; conv => lhs; simp only [slotsZ, zlAt, vs0, resL, at2, eq_self, Nat.reduceEqDiff, reduceIte, Nat.reduceSub, Nat.reduceAdd, List.cons_append, List.nil_append]
                          all_goals rfl
                        · intro gh X; conv => lhs; simp only [slotsZ, zlAt, vs0, resL, at2, eq_self, Nat.reduceEqDiff, reduceIte, Nat.reduceSub, Nat.reduceAdd, List.cons_append, List.nil_append]
                          all_goals rfl
                        ·
                          intro gh X K zq zc zq2 zc2 zb zv hK
                          refine J.p (PR.assign rfl) rfl ?_
                          refine J.nilK ?_
                          exact hK zq zc zq2 zc2 zb zv
                        ·
                          intro gh gh' h
                          first | simp only [h 1 rfl, h 3 rfl, h 5 rfl, h 9 rfl] | rfl
                        apply GJ.close [0, 1, 2, 3, 4, 5, 6, 7, 8, 9, 10, 11] [0, 1, 2, 3, 4, 5, 6, 7, 8, 10, 11, 12, 13, 14, 15, 16, 17, 18, 19, 20, 21, 22, 23] foll0 rfl rfl rfl (by rfl)
                        · intro gh; conv => lhs; simp only [slotsZ, zlAt, vs0, resL, at2, eq_self, Nat.reduceEqDiff, reduceIte, Nat.reduceSub, Nat.reduceAdd, List.cons_append, List.nil_append]
                          all_goals rfl
                        · intro gh; conv => lhs; simp only [slotsZ, zlAt, vs0, resL, at2, eq_self, Nat.reduceEqDiff, reduceIte, Nat.reduceSub, Nat.reduceAdd, List.cons_append, List.nil_append]
                          all_goals rfl
                        intro gh
                        generalize (gh 1).c = co98
                        generalize (gh 1).q = qo98
                        generalize (gh 3).c = co100
                        generalize (gh 3).q = qo100
                        generalize (gh 5).c = co102
                        generalize (gh 5).q = qo102
                        generalize (gh 9).b = g17
                        clear gh
                        refine EJ.thenN (hK42 ?_)
                        refine CJ.seq fun _ hK43 _ => ?_
                        refine CJ.seq fun _ hK44 _ => ?_
                        refine CJ.region ?_
                        refine J.p (PR.loadAll rfl (.s (.s (.s .z))) (by simpa [*] using ag29)) rfl ?_
                        refine J.p (PR.loadAll rfl (.s (.s (.s (.s (.s (.s (.s (.s (.s (.s (.s (.s (.s (.s .z)))))))))))))) (by simpa [*] using ag29)) rfl ?_
                        refine J.call fn23 rfl rfl fun w hH => hH.lend (.s (.s .z)) fun Hl1 hle1 hA1 hB1 hH => hH.lend (.s (.s (.s (.s .z)))) fun Hl2 hle2 hA2 hB2 hH => (eqForm_c ((own_terms (parF_wf hts.wfs.wfs) hA1).le hle2) (own_terms (parF_wf hts.wfs.wfs) hA2) (by omega) hH).mono ?_
                        rintro _ w ⟨rfl, hH⟩
                        replace hH := hB2 _ _ hH
                        replace hH := hB1 _ _ hH
                        refine ⟨_, rfl, fun a hF => J.of hF hH ?_⟩
                        refine J.p (PR.not rfl) rfl ?_
                        refine J.p (PR.move rfl) rfl ?_
                        refine J.splitB (jd := 109) rfl (fun hg109 => ?_) (fun hg109 => ?_)
                        ·
                          try have hg109p := of_decide_eq_true hg109
                          refine J.gn rfl rfl rfl hg109 ?_
                          refine J.gn rfl rfl rfl hg109 ?_
                          refine J.gn rfl rfl rfl hg109 ?_
                          refine J.p (PR.pickT rfl hg109 rfl) rfl ?_
                          refine J.nil ?_
                          refine EJ.thenN (hK44 ?_)
                          refine CJ.condT rfl ?_
                          refine CJ.seq fun _ hK45 _ => ?_
                          refine CJ.region ?_
                          refine J.p (PR.assign rfl) rfl ?_
                          refine J.nil ?_
                          refine EJ.thenN (hK45 ?_)
                          refine CJ.ret ?_
                          refine EJ.thenR ?_
                          refine EJ.ret1 rfl (Res.tmp rfl) fun w hH => ?_
                          replace hH := hH.tail
                          replace hH := hH.tail
                          replace hH := hH.tail
                          replace hH := hH.tail
                          replace hH := hH.tail
                          replace hH := hH.tail
                          replace hH := hH.tail
                          replace hH := hH.tail
                          replace hH := hH.tail
                          replace hH := hH.tail
                          replace hH := hH.tail
                          replace hH := hH.tail
                          replace hH := hH.tail
                          replace hH := hH.tail
                          replace hH := hH.tail
                          replace hH := hH.tail
                          first | exact ⟨rfl, hH.below⟩ | exact absurd rfl hg109p | exact absurd rfl hg109 | (exfalso; omega) | (simp at hg109; done)
                        ·
                          try have hg109p := of_decide_eq_false hg109
                          refine J.gy (PR.move rfl) rfl rfl rfl hg109 ?_
                          refine J.gy (PR.move rfl) rfl rfl rfl hg109 ?_
                          refine J.gy (PR.neq rfl rfl) rfl rfl rfl hg109 ?_
                          refine J.p (PR.pickF rfl hg109 rfl) rfl ?_
                          refine J.nil ?_
                          refine EJ.thenN (hK44 ?_)
                          refine CJ.condD rfl (fun hc113 => ?_) (fun hc113 => ?_)
                          ·
                            refine CJ.seq fun _ hK46 _ => ?_
                            refine CJ.region ?_
                            refine J.p (PR.assign rfl) rfl ?_
                            refine J.nil ?_
                            refine EJ.thenN (hK46 ?_)
                            refine CJ.ret ?_
                            refine EJ.thenR ?_
                            refine EJ.ret1 rfl (Res.tmp rfl) fun w hH => ?_
                            replace hH := hH.tail
                            replace hH := hH.tail
                            replace hH := hH.tail
                            replace hH := hH.tail
                            replace hH := hH.tail
                            replace hH := hH.tail
                            replace hH := hH.tail
                            replace hH := hH.tail
                            replace hH := hH.tail
                            replace hH := hH.tail
                            replace hH := hH.tail
                            replace hH := hH.tail
                            replace hH := hH.tail
                            replace hH := hH.tail
                            replace hH := hH.tail
                            replace hH := hH.tail
                            first | exact ⟨rfl, hH.below⟩ | exact absurd rfl hc113p | exact absurd rfl hc113 | (exfalso; omega) | (simp at hc113; done)
                          ·
                            refine CJ.skip ?_
                            refine EJ.thenN (hK43 ?_)
                            refine CJ.seq fun _ hK47 _ => ?_
                            refine CJ.region ?_
                            refine J.p (PR.assign rfl) rfl ?_
                            refine J.nil ?_
                            refine EJ.thenN (hK47 ?_)
                            refine CJ.seq fun _ hK48 _ => ?_
                            refine CJ.region ?_
                            refine J.p (PR.loadAll rfl (.s (.s (.s (.s (.s (.s (.s (.s (.s (.s .z)))))))))) (by simpa [*] using ag29)) rfl ?_
                            refine J.p (PR.move rfl) rfl ?_
                            refine J.call fn27 rfl rfl fun w hH => hH.lend (.s (.s (.s (.s (.s .z))))) fun Hl1 hle1 hA1 hB1 hH => (heldForm_c (own_mterms (by omega) hA1) (by omega) hH).mono ?_
                            rintro _ w ⟨rfl, hH⟩
                            replace hH := hB1 _ _ hH
                            refine ⟨_, rfl, fun a hF => J.of hF hH ?_⟩
                            refine J.p (PR.assign rfl) rfl ?_
                            refine J.nil ?_
                            refine EJ.thenN (hK48 ?_)
                            refine CJ.seq fun _ hK49 _ => ?_
                            refine CJ.seq fun _ hK50 _ => ?_
                            refine CJ.region ?_
                            refine J.p (PR.move rfl) rfl ?_
                            refine J.p (PR.lss rfl rfl) rfl ?_
                            refine J.nil ?_
                            refine EJ.thenN (hK50 ?_)
                            refine CJ.condD rfl (fun hc118 => ?_) (fun hc118 => ?_)
                            ·
                              refine CJ.seq fun _ hK51 _ => ?_
                              refine CJ.region ?_
                              refine J.p (PR.assign rfl) rfl ?_
                              refine J.nil ?_
                              refine EJ.thenN (hK51 ?_)
                              refine CJ.ret ?_
                              refine EJ.thenR ?_
                              refine EJ.ret1 rfl (Res.tmp rfl) fun w hH => ?_
                              replace hH := hH.tail
                              replace hH := hH.tail
                              replace hH := hH.tail
                              replace hH := hH.tail
                              replace hH := hH.tail
                              replace hH := hH.tail
                              replace hH := hH.tail
                              replace hH := hH.tail
                              replace hH := hH.tail
                              replace hH := hH.tail
                              replace hH := hH.tail
                              replace hH := hH.tail
                              replace hH := hH.tail
                              replace hH := hH.tail
                              replace hH := hH.tail
                              replace hH := hH.tail
                              first | exact ⟨rfl, hH.below⟩ | exact absurd rfl hc118p | exact absurd rfl hc118 | (exfalso; omega) | (simp at hc118; done)
                            ·
                              refine CJ.skip ?_
                              refine EJ.thenN (hK49 ?_)
                              refine CJ.seq fun _ hK52 _ => ?_
                              refine CJ.seq fun _ hK53 _ => ?_
                              refine CJ.region ?_
                              refine J.p (PR.move rfl) rfl ?_
                              refine J.p (PR.move rfl) rfl ?_
                              refine J.p (PR.neq rfl rfl) rfl ?_
                              refine J.nil ?_
                              refine EJ.thenN (hK53 ?_)
                              refine CJ.condD rfl (fun hc121 => ?_) (fun hc121 => ?_)
                              ·
                                refine CJ.seq fun _ hK54 _ => ?_
                                refine CJ.region ?_
                                refine J.p (PR.assign rfl) rfl ?_
                                refine J.nil ?_
                                refine EJ.thenN (hK54 ?_)
                                refine CJ.ret ?_
                                refine EJ.thenR ?_
                                refine EJ.ret1 rfl (Res.tmp rfl) fun w hH => ?_
                                replace hH := hH.tail
                                replace hH := hH.tail
                                replace hH := hH.tail
                                replace hH := hH.tail
                                replace hH := hH.tail
                                replace hH := hH.tail
                                replace hH := hH.tail
                                replace hH := hH.tail
                                replace hH := hH.tail
                                replace hH := hH.tail
                                replace hH := hH.tail
                                replace hH := hH.tail
                                replace hH := hH.tail
                                replace hH := hH.tail
                                replace hH := hH.tail
                                replace hH := hH.tail
                                first | exact ⟨rfl, hH.below⟩ | exact absurd rfl hc121p | exact absurd rfl hc121 | (exfalso; omega) | (simp at hc121; done)
                              ·
                                refine CJ.skip ?_
                                refine EJ.thenN (hK52 ?_)
                                refine CJ.seq fun _ hK55 _ => ?_
                                refine CJ.region ?_
                                refine J.p (PR.assign rfl) rfl ?_
                                refine J.nil ?_
                                refine EJ.thenN (hK55 ?_)
                                refine CJ.ret ?_
                                refine EJ.ret1 rfl (Res.tmp rfl) fun w hH => ?_
                                replace hH := hH.tail
                                replace hH := hH.tail
                                replace hH := hH.tail
                                replace hH := hH.tail
                                replace hH := hH.tail
                                replace hH := hH.tail
                                replace hH := hH.tail
                                replace hH := hH.tail
                                replace hH := hH.tail
                                replace hH := hH.tail
                                replace hH := hH.tail
                                replace hH := hH.tail
                                replace hH := hH.tail
                                replace hH := hH.tail
                                replace hH := hH.tail
                                replace hH := hH.tail
                                first | exact ⟨rfl, hH.below⟩ | exact absurd rfl hc121p | exact absurd rfl hc121 | (exfalso; omega) | (simp at hc121; done)
end Go.Proofs.Ytpojpokldncglaa.G
