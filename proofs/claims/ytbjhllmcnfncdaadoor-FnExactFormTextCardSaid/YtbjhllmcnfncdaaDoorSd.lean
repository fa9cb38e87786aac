/- FormText on both sides. No condition. -/
import Derived.Test.YtbjhllmcnfncdaaDoorGStr
import Derived.Test.YtbjhllmcnfncdaaDoorProg
import Derived.Test.YtbjhllmcnfncdaaDoorWa
import Derived.Test.YtbjhllmcnfncdaaDoorWb
import Derived.Test.YtbjhllmcnfncdaaDoorWc
import Derived.Test.YtbjhllmcnfncdaaDoorWd
import Derived.Test.YtbjhllmcnfncdaaDoorWe
import Derived.Test.YtbjhllmcnfncdaaDoorSa
import Derived.Test.YtbjhllmcnfncdaaDoorSb
import Derived.Test.YtbjhllmcnfncdaaDoorShelf
import Derived.Lib.AppendIntMem
import Derived.Test.YtbjhllmcnfncdaaDoorSc
set_option linter.unusedVariables false
set_option linter.unusedSimpArgs false
namespace Go.Proofs.YtbjhllmcnfncdaaDoor.G
open Go Go.RowKit
namespace Sd
theorem u2 : Tryd.prog.underlying 2 = some (TypeDesc.int .i64) := by kernel_rfl
theorem u30 : Tryd.prog.underlying 30 = some (TypeDesc.slice 66) := by kernel_rfl
theorem u32 : Tryd.prog.underlying 32 = some (TypeDesc.struct #[{ name := "Terms", type := 30, offset := 0, embedded := false, tag := "", pkgPath := "", byteOffset := 0 }]) := by kernel_rfl
theorem u64 : Tryd.prog.underlying 64 = some (TypeDesc.array 8 5) := by kernel_rfl
theorem u66 : Tryd.prog.underlying 66 = some (TypeDesc.struct #[{ name := "Monomial", type := 64, offset := 0, embedded := false, tag := "", pkgPath := "", byteOffset := 0 }, { name := "Factor", type := 2, offset := 8, embedded := false, tag := "", pkgPath := "", byteOffset := 8 }]) := by kernel_rfl
theorem u71 : Tryd.prog.underlying 71 = some (TypeDesc.slice 9) := by kernel_rfl
theorem sz2 : Size Tryd.prog 2 1 := by unfold Size; kernel_rfl
theorem sz30 : Size Tryd.prog 30 1 := by unfold Size; kernel_rfl
theorem sz64 : Size Tryd.prog 64 8 := by unfold Size; kernel_rfl
theorem sz66 : Size Tryd.prog 66 9 := by unfold Size; kernel_rfl
theorem sz9 : Size Tryd.prog 9 1 := by unfold Size; kernel_rfl
theorem by9 : Bytes Tryd.prog 9 16 := by unfold Bytes; kernel_rfl
theorem ze66 : Zero Tryd.prog 66 [.int .u8 0, .int .u8 0, .int .u8 0, .int .u8 0, .int .u8 0, .int .u8 0, .int .u8 0, .int .u8 0, .int .i64 0] := by unfold Zero; kernel_rfl
theorem ze9 : Zero Tryd.prog 9 [.string ⟨#[]⟩] := by unfold Zero; kernel_rfl
theorem pl2 : Plain Tryd.prog 2 := ⟨_, u2, rfl⟩
theorem pl30 : Plain Tryd.prog 30 := ⟨_, u30, rfl⟩
theorem ag32 : Agg Tryd.prog 32 1 := ⟨_, u32, rfl, by kernel_rfl⟩
theorem ag64 : Agg Tryd.prog 64 8 := ⟨_, u64, rfl, by kernel_rfl⟩
theorem ag66 : Agg Tryd.prog 66 9 := ⟨_, u66, rfl, by kernel_rfl⟩
theorem fn21 : Fn Tryd.prog 21 := ⟨_, Tryd.func21, by kernel_rfl, rfl⟩
theorem fn22 : Fn Tryd.prog 22 := ⟨_, Tryd.func22, by kernel_rfl, rfl⟩
theorem fn39 : Fn Tryd.prog 39 := ⟨_, Tryd.func39, by kernel_rfl, rfl⟩
theorem fn40 : Fn Tryd.prog 40 := ⟨_, Tryd.func40, by kernel_rfl, rfl⟩
theorem fn41 : Fn Tryd.prog 41 := ⟨_, Tryd.func41, by kernel_rfl, rfl⟩
theorem foll0 : Tryd.prog.follows .mixedOrders = true := by kernel_rfl
end Sd
open Sd
set_option maxHeartbeats 4000000 in
set_option maxRecDepth 10000 in
theorem formText_c {B : World} {H0 H : HP} {L : List SA} {w : World} {qts : Option Addr} {cts : Nat} {ts : List Term}  (hts : Terms H qts ts) (hl : ts.length ≤ 400) (hf : ∀ i, i < ts.length → 0 ≤ (tm ts i).fac) (hT : TabOk Tryd.prog nmT H) (hH : Hp B H0 H L w) :
    Calls Tryd.prog 22 [.agg [.slice qts ts.length cts].toArray].toArray w fun e w' => e = .returned (sV (textT ts)) ∧ Hp B H0 H L w' := by
  refine CJ.enter Tryd.func22 rfl 31 rfl rfl [(0, .agg [.slice qts ts.length cts].toArray)] rfl hH ?_
  clear hH
  have hp9 := fun k (h : k ≤ ts.length) => preT_len hts.wfs hf h
  refine CJ.seq fun _ hK1 _ => ?_
  refine CJ.region ?_
  refine J.box rfl rfl rfl fun g1 => ?_
  refine J.p (PR.assign rfl) rfl ?_
  refine J.nil ?_
  refine EJ.thenN (hK1 ?_)
  refine CJ.seq fun _ hK2 _ => ?_
  refine CJ.region ?_
  refine J.mk (MK.lit0 u71 sz9) rfl fun qo6 co6 => ?_
  refine J.p (PR.assign rfl) rfl ?_
  refine J.nil ?_
  refine EJ.thenN (hK2 ?_)
  refine CJ.seq fun _ hK3 _ => ?_
  refine CJ.seq fun _ hK4 _ => ?_
  refine CJ.region ?_
  refine J.p (PR.fldA u32 rfl sz30 rfl) rfl ?_
  refine J.p (PR.load rfl (.s .z) rfl pl30) rfl ?_
  refine J.p (PR.lenSlice u30 rfl rfl) rfl ?_
  refine J.p (PR.move rfl) rfl ?_
  refine J.nil ?_
  refine EJ.thenN (hK4 ?_)
  refine CJ.block ?_
  refine CJ.loopU (σ := Option Addr × Nat × Nat) (fun ⟨q, c, k⟩ => [(10, .int .i64 (k : Int)), (3, .slice q k c)]) (fun ⟨q, c, k⟩ => H) (fun ⟨q, c, k⟩ => own 9 1 q k c (((ts.take k).map termT).map sV) :: obj g1 (.cells [.slice qts ts.length cts].toArray 32 (0, 0)) :: L) (fun ⟨q, c, k⟩ => k ≤ ts.length) (fun ⟨q, c, k⟩ => ts.length - k) (qo6, co6, 0) (by show 0 ≤ ts.length; omega) ⟨rfl, ⟨rfl, trivial⟩⟩ rfl rfl ?_
  rintro ⟨q, c, k⟩ hk _ hAg0
  refine CJ.seq fun _ hK5 _ => ?_
  refine CJ.region ?_
  refine J.p (PR.lss rfl rfl) rfl ?_
  refine J.nil ?_
  refine EJ.thenN (hK5 ?_)
  refine CJ.seq fun _ hK6 _ => ?_
  refine CJ.condD rfl (fun h11 => ?_) (fun h11 => ?_)
  ·
    have hil : k < ts.length := by omega
    have hfi := hf k hil
    have hmw := (hts.wf k hil)
    have hfu := hmw.fac.2
    have hdl := decL_len hfi hmw.fac.2
    have hnl := nameT_len hmw.mono.bd
    refine CJ.skip ?_
    refine EJ.thenN (hK6 ?_)
    refine CJ.seq fun _ hK7 _ => ?_
    refine CJ.block ?_
    refine CJ.seq fun _ hK8 _ => ?_
    refine CJ.region ?_
    refine J.p (PR.idx u30 sz66 rfl rfl rfl (by omega) hts.sm) rfl ?_
    refine J.p (PR.loadHagg rfl (hts.cell _ (by omega)) (hts.sm (i := k) (by omega)) (by rw [Term.c_length (hts.wf _ (by omega))]; exact ag66)) rfl ?_
    refine J.alloc (cs := (default : Term).c) ze66 rfl fun g5 => ?_
    refine J.stTerm rfl rfl sz66 zero_wf (hts.wf k (by omega)) At.z ?_
    refine J.nil ?_
    refine EJ.thenN (hK8 ?_)
    refine CJ.openR (Rs := [_, _, _]) 12 [[], [], [1], [1, 2], [1, 2, 3], [], [5], [1, 2, 3, 5, 6], [1, 2, 3, 4, 5, 6, 7], [1, 2, 3, 4, 5, 6, 7, 8], [0, 1, 2, 3, 4, 5, 6, 7, 8, 9], [0, 1, 2, 3, 4, 5, 6, 7, 8, 9, 10]] [[], [], [12], [], [], [], [12], [], [], [], [9], []] [[], [], [], [], [], [], [], [], [], [], [13], []] rfl rfl (by kernel_rfl) ?_
    apply GJ.st0 1 rfl
    · intro gh; conv => lhs; simp only [slotsZ, zlAt, vs0, resL, at2, eq_self, Nat.reduceEqDiff, reduceIte, Nat.reduceSub, Nat.reduceAdd, List.cons_append, List.nil_append]
      all_goals rfl
    · intro gh X; conv => lhs; simp only [slotsZ, zlAt, vs0, resL, at2, eq_self, Nat.reduceEqDiff, reduceIte, Nat.reduceSub, Nat.reduceAdd, List.cons_append, List.nil_append]
      all_goals rfl
    · intro gh X; conv => lhs; simp only [slotsZ, zlAt, vs0, resL, at2, eq_self, Nat.reduceEqDiff, reduceIte, Nat.reduceSub, Nat.reduceAdd, List.cons_append, List.nil_append]
      all_goals rfl
    ·
      intro gh X K zq zc zq2 zc2 zb zv hK
      refine J.p (PR.move rfl) rfl ?_
      refine J.nilK ?_
      exact hK zq zc zq2 zc2 zb zv
    ·
      intro gh gh' h
      rfl
    apply GJ.st0 2 rfl
    · intro gh; conv => lhs; simp only [slotsZ, zlAt, vs0, resL, at2, eq_self, Nat.reduceEqDiff, reduceIte, Nat.reduceSub, Nat.reduceAdd, List.cons_append, List.nil_append]
      all_goals rfl
    · intro gh X; conv => lhs; simp only [slotsZ, zlAt, vs0, resL, at2, eq_self, Nat.reduceEqDiff, reduceIte, Nat.reduceSub, Nat.reduceAdd, List.cons_append, List.nil_append]
      all_goals rfl
    · intro gh X; conv => lhs; simp only [slotsZ, zlAt, vs0, resL, at2, eq_self, Nat.reduceEqDiff, reduceIte, Nat.reduceSub, Nat.reduceAdd, List.cons_append, List.nil_append]
      all_goals rfl
    ·
      intro gh X K zq zc zq2 zc2 zb zv hK
      refine J.p (PR.fldA u66 rfl sz2 rfl) rfl ?_
      refine J.nilK ?_
      exact hK zq zc zq2 zc2 zb zv
    ·
      intro gh gh' h
      rfl
    apply GJ.st0 3 rfl
    · intro gh; conv => lhs; simp only [slotsZ, zlAt, vs0, resL, at2, eq_self, Nat.reduceEqDiff, reduceIte, Nat.reduceSub, Nat.reduceAdd, List.cons_append, List.nil_append]
      all_goals rfl
    · intro gh X; conv => lhs; simp only [slotsZ, zlAt, vs0, resL, at2, eq_self, Nat.reduceEqDiff, reduceIte, Nat.reduceSub, Nat.reduceAdd, List.cons_append, List.nil_append]
      all_goals rfl
    · intro gh X; conv => lhs; simp only [slotsZ, zlAt, vs0, resL, at2, eq_self, Nat.reduceEqDiff, reduceIte, Nat.reduceSub, Nat.reduceAdd, List.cons_append, List.nil_append]
      all_goals rfl
    ·
      intro gh X K zq zc zq2 zc2 zb zv hK
      refine J.p (PR.ldFac rfl At.z (hts.wf k (by omega)) pl2) rfl ?_
      refine J.nilK ?_
      exact hK zq zc zq2 zc2 zb zv
    ·
      intro gh gh' h
      rfl
    apply GJ.st0 4 rfl
    · intro gh; conv => lhs; simp only [slotsZ, zlAt, vs0, resL, at2, eq_self, Nat.reduceEqDiff, reduceIte, Nat.reduceSub, Nat.reduceAdd, List.cons_append, List.nil_append]
      all_goals rfl
    · intro gh X; conv => lhs; simp only [slotsZ, zlAt, vs0, resL, at2, eq_self, Nat.reduceEqDiff, reduceIte, Nat.reduceSub, Nat.reduceAdd, List.cons_append, List.nil_append]
      all_goals rfl
    · intro gh X; conv => lhs; simp only [slotsZ, zlAt, vs0, resL, at2, eq_self, Nat.reduceEqDiff, reduceIte, Nat.reduceSub, Nat.reduceAdd, List.cons_append, List.nil_append]
      all_goals rfl
    ·
      intro gh X K zq zc zq2 zc2 zb zv hK
      refine J.call fn39 rfl rfl fun w hH => (decimal_c (by omega) hT hH).mono ?_
      rintro _ w ⟨rfl, hH⟩
      refine ⟨_, rfl, fun a hF => J.of hF hH ?_⟩
      refine J.nilK ?_
      exact hK zq zc zq2 zc2 zb zv
    ·
      intro gh gh' h
      rfl
    apply GJ.st0 5 rfl
    · intro gh; conv => lhs; simp only [slotsZ, zlAt, vs0, resL, at2, eq_self, Nat.reduceEqDiff, reduceIte, Nat.reduceSub, Nat.reduceAdd, List.cons_append, List.nil_append]
      all_goals rfl
    · intro gh X; conv => lhs; simp only [slotsZ, zlAt, vs0, resL, at2, eq_self, Nat.reduceEqDiff, reduceIte, Nat.reduceSub, Nat.reduceAdd, List.cons_append, List.nil_append]
      all_goals rfl
    · intro gh X; conv => lhs; simp only [slotsZ, zlAt, vs0, resL, at2, eq_self, Nat.reduceEqDiff, reduceIte, Nat.reduceSub, Nat.reduceAdd, List.cons_append, List.nil_append]
      all_goals rfl
    ·
      intro gh X K zq zc zq2 zc2 zb zv hK
      refine J.p (PR.strAdd rfl rfl (by first | omega | (simp only [List.length_append, List.length_singleton]; omega))) rfl ?_
      refine J.nilK ?_
      exact hK zq zc zq2 zc2 zb zv
    ·
      intro gh gh' h
      rfl
    apply GJ.st0 6 rfl
    · intro gh; conv => lhs; simp only [slotsZ, zlAt, vs0, resL, at2, eq_self, Nat.reduceEqDiff, reduceIte, Nat.reduceSub, Nat.reduceAdd, List.cons_append, List.nil_append]
      all_goals rfl
    · intro gh X; conv => lhs; simp only [slotsZ, zlAt, vs0, resL, at2, eq_self, Nat.reduceEqDiff, reduceIte, Nat.reduceSub, Nat.reduceAdd, List.cons_append, List.nil_append]
      all_goals rfl
    · intro gh X; conv => lhs; simp only [slotsZ, zlAt, vs0, resL, at2, eq_self, Nat.reduceEqDiff, reduceIte, Nat.reduceSub, Nat.reduceAdd, List.cons_append, List.nil_append]
      all_goals rfl
    ·
      intro gh X K zq zc zq2 zc2 zb zv hK
      refine J.p (PR.fldA u66 rfl sz64 rfl) rfl ?_
      refine J.nilK ?_
      exact hK zq zc zq2 zc2 zb zv
    ·
      intro gh gh' h
      rfl
    apply GJ.st0 7 rfl
    · intro gh; conv => lhs; simp only [slotsZ, zlAt, vs0, resL, at2, eq_self, Nat.reduceEqDiff, reduceIte, Nat.reduceSub, Nat.reduceAdd, List.cons_append, List.nil_append]
      all_goals rfl
    · intro gh X; conv => lhs; simp only [slotsZ, zlAt, vs0, resL, at2, eq_self, Nat.reduceEqDiff, reduceIte, Nat.reduceSub, Nat.reduceAdd, List.cons_append, List.nil_append]
      all_goals rfl
    · intro gh X; conv => lhs; simp only [slotsZ, zlAt, vs0, resL, at2, eq_self, Nat.reduceEqDiff, reduceIte, Nat.reduceSub, Nat.reduceAdd, List.cons_append, List.nil_append]
      all_goals rfl
    ·
      intro gh X K zq zc zq2 zc2 zb zv hK
      refine J.p (PR.ldMono rfl At.z (hts.wf k (by omega)) ag64) rfl ?_
      refine J.nilK ?_
      exact hK zq zc zq2 zc2 zb zv
    ·
      intro gh gh' h
      rfl
    apply GJ.st0 8 rfl
    · intro gh; conv => lhs; simp only [slotsZ, zlAt, vs0, resL, at2, eq_self, Nat.reduceEqDiff, reduceIte, Nat.reduceSub, Nat.reduceAdd, List.cons_append, List.nil_append]
      all_goals rfl
    · intro gh X; conv => lhs; simp only [slotsZ, zlAt, vs0, resL, at2, eq_self, Nat.reduceEqDiff, reduceIte, Nat.reduceSub, Nat.reduceAdd, List.cons_append, List.nil_append]
      all_goals rfl
    · intro gh X; conv => lhs; simp only [slotsZ, zlAt, vs0, resL, at2, eq_self, Nat.reduceEqDiff, reduceIte, Nat.reduceSub, Nat.reduceAdd, List.cons_append, List.nil_append]
      all_goals rfl
    ·
      intro gh X K zq zc zq2 zc2 zb zv hK
      refine J.call fn40 rfl rfl fun w hH => (monomialText_c (hts.wf k (by omega)).mono hT hH).mono ?_
      rintro _ w ⟨rfl, hH⟩
      refine ⟨_, rfl, fun a hF => J.of hF hH ?_⟩
      refine J.nilK ?_
      exact hK zq zc zq2 zc2 zb zv
    ·
      intro gh gh' h
      rfl
    apply GJ.st0 9 rfl
    · intro gh; conv => lhs; simp only [slotsZ, zlAt, vs0, resL, at2, eq_self, Nat.reduceEqDiff, reduceIte, Nat.reduceSub, Nat.reduceAdd, List.cons_append, List.nil_append]
      all_goals rfl
    · intro gh X; conv => lhs; simp only [slotsZ, zlAt, vs0, resL, at2, eq_self, Nat.reduceEqDiff, reduceIte, Nat.reduceSub, Nat.reduceAdd, List.cons_append, List.nil_append]
      all_goals rfl
    · intro gh X; conv => lhs; simp only [slotsZ, zlAt, vs0, resL, at2, eq_self, Nat.reduceEqDiff, reduceIte, Nat.reduceSub, Nat.reduceAdd, List.cons_append, List.nil_append]
      all_goals rfl
    ·
      intro gh X K zq zc zq2 zc2 zb zv hK
      refine J.p (PR.strAdd rfl rfl (by first | omega | (simp only [List.length_append, List.length_singleton]; omega))) rfl ?_
      refine J.nilK ?_
      exact hK zq zc zq2 zc2 zb zv
    ·
      intro gh gh' h
      rfl
    apply GJ.st1 10 rfl
    · intro gh; conv => lhs; simp only [slotsZ, zlAt, vs0, resL, at2, eq_self, Nat.reduceEqDiff, reduceIte, Nat.reduceSub, Nat.reduceAdd, List.cons_append, List.nil_append]
      all_goals rfl
    · intro gh X; conv => lhs; simp only [slotsZ, zlAt, vs0, resL, at2, eq_self, Nat.reduceEqDiff, reduceIte, Nat.reduceSub, Nat.reduceAdd, List.cons_append, List.nil_append]
      all_goals rfl
    · intro gh X; conv => lhs; simp only [slotsZ, zlAt, vs0, resL, at2, eq_self, Nat.reduceEqDiff, reduceIte, Nat.reduceSub, Nat.reduceAdd, List.cons_append, List.nil_append]
      all_goals rfl
    ·
      intro gh X K zq zc zq2 zc2 zb zv hK
      refine J.mk (MK.lit1S u71 ze9 sz9 rfl rfl) rfl fun qo23 co23 => ?_
      refine J.nilK ?_
      exact hK qo23 co23 zq2 zc2 zb zv
    ·
      intro gh gh' h
      refine ⟨?_, ?_⟩ <;> rfl
    apply GJ.st1 11 rfl
    · intro gh; conv => lhs; simp only [slotsZ, zlAt, vs0, resL, at2, eq_self, Nat.reduceEqDiff, reduceIte, Nat.reduceSub, Nat.reduceAdd, List.cons_append, List.nil_append]
      all_goals rfl
    · intro gh X; conv => lhs; simp only [slotsZ, zlAt, vs0, resL, at2, eq_self, Nat.reduceEqDiff, reduceIte, Nat.reduceSub, Nat.reduceAdd, List.cons_append, List.nil_append]
      all_goals rfl
    · intro gh X; conv => lhs; simp only [slotsZ, zlAt, vs0, resL, at2, eq_self, Nat.reduceEqDiff, reduceIte, Nat.reduceSub, Nat.reduceAdd, List.cons_append, List.nil_append]
      all_goals rfl
    ·
      intro gh X K zq zc zq2 zc2 zb zv hK
      refine J.append1 u71 ze9 sz9 by9 rfl rfl rfl rfl (by omega) (.s .z) At.z (fun _ _ => At.z) rfl fun qo24 co24 => ?_
      refine EJ.front .z ?_
      refine EJ.front (.s .z) ?_
      refine J.nilK ?_
      exact hK qo24 co24 zq2 zc2 zb zv
    ·
      intro gh gh' h
      refine ⟨?_, ?_⟩ <;> (first | simp only [h 9 rfl] | rfl)
    apply GJ.st0 12 rfl
    · intro gh; conv => lhs; simp only [slotsZ, zlAt, vs0, resL, at2, eq_self, Nat.reduceEqDiff, reduceIte, Nat.reduceSub, Nat.reduceAdd, List.cons_append, List.nil_append]
      all_goals rfl
    · intro gh X; conv => lhs; simp only [slotsZ, zlAt, vs0, resL, at2, eq_self, Nat.reduceEqDiff, reduceIte, Nat.reduceSub, Nat.reduceAdd, List.cons_append, List.nil_append]
      all_goals rfl
    · intro gh X; conv => lhs; simp only [slotsZ, zlAt, vs0, resL, at2, eq_self, Nat.reduceEqDiff, reduceIte, Nat.reduceSub, Nat.reduceAdd, List.cons_append, List.nil_append]
      all_goals rfl
    ·
      intro gh X K zq zc zq2 zc2 zb zv hK
      refine J.p (PR.assign rfl) rfl ?_
      refine J.nilK ?_
      exact hK zq zc zq2 zc2 zb zv
    ·
      intro gh gh' h
      first | simp only [h 9 rfl, h 10 rfl] | rfl
    apply GJ.close [0, 1, 2, 3, 4, 5, 6, 7, 8, 9, 10, 11] [0, 1, 2, 3, 4, 5, 6, 7, 8, 9, 10, 11, 12, 14] foll0 rfl rfl rfl (by rfl)
    · intro gh; conv => lhs; simp only [slotsZ, zlAt, vs0, resL, at2, eq_self, Nat.reduceEqDiff, reduceIte, Nat.reduceSub, Nat.reduceAdd, List.cons_append, List.nil_append]
      all_goals rfl
    · intro gh; conv => lhs; simp only [slotsZ, zlAt, vs0, resL, at2, eq_self, Nat.reduceEqDiff, reduceIte, Nat.reduceSub, Nat.reduceAdd, List.cons_append, List.nil_append]
      all_goals rfl
    intro gh
    generalize (gh 9).c = co23
    generalize (gh 9).q = qo23
    generalize (gh 10).c = co24
    generalize (gh 10).q = qo24
    clear gh
    refine EJ.inN ?_
    refine EJ.thenN (hK7 ?_)
    refine CJ.region ?_
    refine J.p (PR.add rfl rfl (by first | exact nw _ (by omega) | rfl)) rfl ?_
    refine J.p (PR.move rfl) rfl ?_
    refine J.nil ?_
    refine EJ.thenN ?_
    refine EJ.drop .z ?_
    refine EJ.drop (.s .z) ?_
    exact hAg0 (qo24, co24, k + 1) (by show k + 1 ≤ ts.length; omega) (by show ts.length - (k + 1) < ts.length - k; omega) 20 rfl rfl ⟨rfl, ⟨rfl, trivial⟩⟩ rfl (by dsimp only; rw [stm_take (by omega), List.map_append, List.map_append]; rfl)
  ·
    refine CJ.exit ?_
    refine EJ.thenE ?_
    refine EJ.thenE ?_
    refine EJ.inE ?_
    refine EJ.thenN (hK3 ?_)
    refine CJ.seq fun _ hK9 _ => ?_
    refine CJ.seq fun _ hK10 _ => ?_
    refine CJ.region ?_
    refine J.p (PR.move rfl) rfl ?_
    refine J.p (PR.lenSlice u71 rfl rfl) rfl ?_
    refine J.p (PR.eql rfl rfl) rfl ?_
    refine J.nil ?_
    refine EJ.thenN (hK10 ?_)
    refine CJ.condD rfl (fun h28 => ?_) (fun h28 => ?_)
    ·
      refine CJ.seq fun _ hK11 _ => ?_
      refine CJ.region ?_
      refine J.p (PR.assign rfl) rfl ?_
      refine J.nil ?_
      refine EJ.thenN (hK11 ?_)
      refine CJ.ret ?_
      refine EJ.thenR ?_
      refine EJ.ret1 rfl (Res.tmp rfl) fun w hH => ?_
      replace hH := hH.tail
      replace hH := hH.tail
      exact ⟨by unfold textT; rw [if_pos (by omega)], hH⟩
    ·
      refine CJ.skip ?_
      refine EJ.thenN (hK9 ?_)
      refine CJ.seq fun _ hK12 _ => ?_
      refine CJ.region ?_
      refine J.p (PR.move rfl) rfl ?_
      have hp0 := hp9 k (by omega)
      have hjl : (Lib.join ((ts.take k).map termT) [43]).length ≤ 140737488355328 := by rw [← preT_join (by omega)]; omega
      refine J.call fn41 rfl rfl fun w hH => (joinS_c (xs := (ts.take k).map termT) (sep := [43]) (by rw [List.length_map, List.length_take_of_le (by omega)]) List.mem_cons_self (by omega) (by omega) hjl hH).mono ?_
      rintro _ w ⟨rfl, hH⟩
      refine ⟨_, rfl, fun a hF => J.of hF hH ?_⟩
      refine J.p (PR.assign rfl) rfl ?_
      refine J.nil ?_
      refine EJ.thenN (hK12 ?_)
      refine CJ.ret ?_
      refine EJ.ret1 rfl (Res.tmp rfl) fun w hH => ?_
      replace hH := hH.tail
      replace hH := hH.tail
      obtain rfl : k = ts.length := by omega
      exact ⟨by rw [← preT_end ts (by omega), preT_join (Nat.le_refl _)], hH⟩
set_option maxRecDepth 10000 in
theorem FormText_c {B : World} {H0 H : HP} {L : List SA} {w : World} {qds : Option Addr} {cds : Nat} {ds : List Int} {qts : Option Addr} {cts : Nat} {ts : List Term}  (hds : Ints H qds ds) (hts : Terms H qts ts) (hn : ds.length ≤ 1048576) (hlt : ts.length ≤ 9223372036854775807) (hT : TabOk Tryd.prog nmT H) (hH : Hp B H0 H L w) :
    Calls Tryd.prog 9 [.slice qds ds.length cds, .agg [.slice qts ts.length cts].toArray].toArray w fun e w' => e = .returned (.tuple #[sV (fmT ds ts), .int .i64 (fmC ds ts)]) ∧ Hp B H0 H L w' := by
  refine CJ.enter Tryd.func9 rfl 12 rfl rfl [(0, .slice qds ds.length cds), (1, .agg [.slice qts ts.length cts].toArray)] rfl hH ?_
  clear hH
  refine CJ.seq fun _ hK1 _ => ?_
  refine CJ.region ?_
  refine J.box rfl rfl rfl fun g3 => ?_
  refine J.p (PR.assign rfl) rfl ?_
  refine J.p (PR.assign rfl) rfl ?_
  refine J.nil ?_
  refine EJ.thenN (hK1 ?_)
  refine CJ.seq fun _ hK2 _ => ?_
  refine CJ.seq fun _ hK3 _ => ?_
  refine CJ.region ?_
  refine J.p (PR.move rfl) rfl ?_
  refine J.p (PR.loadAll rfl At.z (by simpa [*] using ag32)) rfl ?_
  refine J.call fn21 rfl rfl fun w hH => (IsForm_c hds hts hn hlt hH).mono ?_
  rintro _ w ⟨rfl, hH⟩
  refine ⟨_, rfl, fun a hF => J.of hF hH ?_⟩
  refine J.p (PR.not rfl) rfl ?_
  refine J.nil ?_
  refine EJ.thenN (hK3 ?_)
  refine CJ.cond rfl (fun h9 => ?_) (fun h9 => ?_)
  ·
    refine CJ.seq fun _ hK4 _ => ?_
    refine CJ.region ?_
    refine J.p (PR.assign rfl) rfl ?_
    refine J.p (PR.assign rfl) rfl ?_
    refine J.nil ?_
    refine EJ.thenN (hK4 ?_)
    refine CJ.ret ?_
    refine EJ.thenR ?_
    refine EJ.ret2 rfl (Res.tmp rfl) (Res.tmp rfl) fun w hH => ?_
    replace hH := hH.tail
    obtain ⟨e1, e2⟩ := fm_no (ds := ds) (ts := ts) (nott h9)
    rw [e1, e2]
    exact ⟨rfl, hH⟩
  ·
    have hA9 : (isDeg ds && isForm ds ts) = true := notf h9
    obtain ⟨hl4, hf4⟩ := form_fac hA9
    refine CJ.skip ?_
    refine EJ.thenN (hK2 ?_)
    refine CJ.seq fun _ hK5 _ => ?_
    refine CJ.region ?_
    refine J.p (PR.loadAll rfl At.z (by simpa [*] using ag32)) rfl ?_
    refine J.call fn22 rfl rfl fun w hH => (formText_c hts hl4 hf4 hT hH).mono ?_
    rintro _ w ⟨rfl, hH⟩
    refine ⟨_, rfl, fun a hF => J.of hF hH ?_⟩
    refine J.p (PR.assign rfl) rfl ?_
    refine J.p (PR.assign rfl) rfl ?_
    refine J.nil ?_
    refine EJ.thenN (hK5 ?_)
    refine CJ.ret ?_
    refine EJ.ret2 rfl (Res.tmp rfl) (Res.tmp rfl) fun w hH => ?_
    replace hH := hH.tail
    obtain ⟨e1, e2⟩ := fm_yes hA9
    rw [e1, e2]
    exact ⟨rfl, hH⟩
end Go.Proofs.YtbjhllmcnfncdaaDoor.G
