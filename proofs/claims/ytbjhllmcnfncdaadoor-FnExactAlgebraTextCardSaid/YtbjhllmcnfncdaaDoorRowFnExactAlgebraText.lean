/- The row: the law answers true whatever the input, and the input reads as it did. No condition. -/
import Derived.Test.YtbjhllmcnfncdaaDoorRows
import Derived.Test.YtbjhllmcnfncdaaDoorProg
import Derived.WalkKit
import Derived.KernelRfl
import Derived.JoinedOf
import Derived.Maps.AppendAt
import Derived.Still
import Derived.ProofKit
import Derived.OpenShut
import Derived.StillTail
import Derived.Deep.Upon
import Derived.WalkSpells
import Derived.Maps.Range
import Derived.Laws.Concat
import Derived.Laws.IdiomStrings
import Derived.Laws.Strings
import Derived.Lib.ItoaNum
import Derived.Lib.Join
import Derived.Lib.LaidTab
import Derived.DeepKeys4
import Derived.Shelf.Strings.Builder1
import Derived.Shelf.Strings.Builder2
import Derived.Shelf.Strings.OnBuilder
import Derived.Shelf.Strings.BuilderF
import Derived.Shelf.Strings.BuilderK
import Derived.Shelf.Strconv.Itoa0
import Derived.Shelf.Strconv.Itoa1
import Derived.Shelf.LaysM
import Derived.Shelf.Strconv.Itoa2
import Derived.Shelf.Strconv.Itoa3
import Derived.Shelf.Strconv.Itoa4
import Derived.Lib.AppendIntMem
import Derived.Test.YtbjhllmcnfncdaaDoorCards
import Derived.Test.YtbjhllmcnfncdaaDoorTie
import Derived.LaidMore
import Derived.Stop.Joined
import Derived.Stop.LaidErr
import Derived.SevenTiedAt
import Derived.MakeChecks
import Derived.ChangeOld
import Derived.Below
import Derived.SizedLaws
import Derived.Test.YtbjhllmcnfncdaaDoorPAltf
set_option linter.unusedVariables false
set_option linter.unusedSimpArgs false
namespace Go.Proofs.YtbjhllmcnfncdaaDoor.G
open Go Go.RowKit
namespace Sb
theorem u2 : Tryd.prog.underlying 2 = some (TypeDesc.int .i64) := by kernel_rfl
theorem u3 : Tryd.prog.underlying 3 = some (TypeDesc.int .i64) := by kernel_rfl
theorem u30 : Tryd.prog.underlying 30 = some (TypeDesc.slice 66) := by kernel_rfl
theorem u32 : Tryd.prog.underlying 32 = some (TypeDesc.struct #[{ name := "Terms", type := 30, offset := 0, embedded := false, tag := "", pkgPath := "", byteOffset := 0 }]) := by kernel_rfl
theorem u5 : Tryd.prog.underlying 5 = some (TypeDesc.int .u8) := by kernel_rfl
theorem u64 : Tryd.prog.underlying 64 = some (TypeDesc.array 8 5) := by kernel_rfl
theorem u66 : Tryd.prog.underlying 66 = some (TypeDesc.struct #[{ name := "Monomial", type := 64, offset := 0, embedded := false, tag := "", pkgPath := "", byteOffset := 0 }, { name := "Factor", type := 2, offset := 8, embedded := false, tag := "", pkgPath := "", byteOffset := 8 }]) := by kernel_rfl
theorem u83 : Tryd.prog.underlying 83 = some (TypeDesc.slice 5) := by kernel_rfl
theorem u9 : Tryd.prog.underlying 9 = some (TypeDesc.string) := by kernel_rfl
theorem sz2 : Size Tryd.prog 2 1 := by unfold Size; kernel_rfl
theorem sz30 : Size Tryd.prog 30 1 := by unfold Size; kernel_rfl
theorem sz5 : Size Tryd.prog 5 1 := by unfold Size; kernel_rfl
theorem sz64 : Size Tryd.prog 64 8 := by unfold Size; kernel_rfl
theorem sz66 : Size Tryd.prog 66 9 := by unfold Size; kernel_rfl
theorem ze5 : Zero Tryd.prog 5 [.int .u8 0] := by unfold Zero; kernel_rfl
theorem pl2 : Plain Tryd.prog 2 := ⟨_, u2, rfl⟩
theorem pl30 : Plain Tryd.prog 30 := ⟨_, u30, rfl⟩
theorem pl5 : Plain Tryd.prog 5 := ⟨_, u5, rfl⟩
theorem ag32 : Agg Tryd.prog 32 1 := ⟨_, u32, rfl, by kernel_rfl⟩
theorem ag64 : Agg Tryd.prog 64 8 := ⟨_, u64, rfl, by kernel_rfl⟩
theorem fn19 : Fn Tryd.prog 19 := ⟨_, Tryd.func19, by kernel_rfl, rfl⟩
theorem fn34 : Fn Tryd.prog 34 := ⟨_, Tryd.func34, by kernel_rfl, rfl⟩
theorem fn35 : Fn Tryd.prog 35 := ⟨_, Tryd.func35, by kernel_rfl, rfl⟩
theorem foll0 : Tryd.prog.follows .mixedOrders = true := by kernel_rfl
end Sb
open Sb
theorem su8_id {x : Int} (h : 0 ≤ x ∧ x ≤ 255) : IntKind.u8.wrap x = x := by simp [IntKind.wrap, IntKind.signed, IntKind.bits]; omega
set_option maxRecDepth 10000 in
theorem l01DecX_c {B : World} {H0 H : HP} {L : List SA} {w : World} {x : Int}  (hx : 0 ≤ x ∧ x ≤ 9223372036854775807) (hrec : ∀ y : Int, y = x.tdiv 10 → 10 ≤ x → ∀ (L : List SA) (w : World), Hp B H0 H L w → Calls Tryd.prog 34 [.int .i64 y].toArray w fun r w' => r = .returned (sV (decL y)) ∧ Hp B H0 H L w') (hH : Hp B H0 H L w) :
    Calls Tryd.prog 34 [.int .i64 x].toArray w fun e w' => e = .returned (sV (decL x)) ∧ Hp B H0 H L w' := by
  refine CJ.enter Tryd.func34 rfl 20 rfl rfl [(0, .int .i64 x)] rfl hH ?_
  clear hH
  have hr0 : 0 ≤ x.tmod 10 ∧ x.tmod 10 ≤ 9 := by rw [Int.tmod_eq_emod_of_nonneg hx.1]; omega
  have hq0 : 0 ≤ x.tdiv 10 ∧ x.tdiv 10 ≤ x := by rw [Int.tdiv_eq_ediv_of_nonneg hx.1]; omega
  have hl9 := decL_len (n := x.tdiv 10) hq0.1 (by omega)
  refine CJ.seq fun _ hK1 _ => ?_
  refine CJ.region ?_
  refine J.p (PR.assign rfl) rfl ?_
  refine J.nil ?_
  refine EJ.thenN (hK1 ?_)
  refine CJ.seq fun _ hK2 _ => ?_
  refine CJ.seq fun _ hK3 _ => ?_
  refine CJ.region ?_
  refine J.p (PR.move rfl) rfl ?_
  refine J.p (PR.lss rfl rfl) rfl ?_
  refine J.nil ?_
  refine EJ.thenN (hK3 ?_)
  refine CJ.condD rfl (fun h4 => ?_) (fun h4 => ?_)
  ·
    refine CJ.seq fun _ hK4 _ => ?_
    refine CJ.region ?_
    refine J.p (PR.move rfl) rfl ?_
    refine J.p (PR.add rfl rfl (by first | exact nw _ (by omega) | rfl)) rfl ?_
    refine J.p (PR.conv u2 u5 rfl (su8_id (by omega))) rfl ?_
    refine J.mk (MK.lit1S u83 ze5 sz5 rfl rfl) rfl fun qo8 co8 => ?_
    refine J.p (PR.str1 u83 u5 u9 rfl At.z (by omega)) rfl ?_
    refine J.p (PR.assign rfl) rfl ?_
    refine J.nil ?_
    refine EJ.thenN (hK4 ?_)
    refine CJ.ret ?_
    refine EJ.thenR ?_
    refine EJ.ret1 rfl (Res.tmp rfl) fun w hH => ?_
    replace hH := hH.tail
    exact ⟨by rw [decL_small hx.1 (by omega)], hH⟩
  ·
    refine CJ.skip ?_
    refine EJ.thenN (hK2 ?_)
    refine CJ.seq fun _ hK5 _ => ?_
    refine CJ.openR (Rs := []) 11 [[], [0], [0, 1], [], [3], [3, 4], [3, 4, 5], [3, 4, 5, 6], [3, 4, 5, 6, 7], [0, 1, 2, 3, 4, 5, 6, 7, 8], [0, 1, 2, 3, 4, 5, 6, 7, 8, 9]] [[], [], [], [], [], [], [], [], [7], [], []] [[], [], [], [], [], [], [], [], [], [], []] rfl rfl (by kernel_rfl) ?_
    apply GJ.st0 1 rfl
    iterate 3 focus (intros; (conv => lhs; simp only [slotsZ, zlAt, vs0, resL, at2, eq_self, Nat.reduceEqDiff, reduceIte, Nat.reduceSub, Nat.reduceAdd, List.cons_append, List.nil_append]); all_goals rfl)
    ·
      intro gh X K zq zc zq2 zc2 zb zv hK
      refine J.p (PR.move rfl) rfl ?_
      refine J.nilK ?_
      exact hK zq zc zq2 zc2 zb zv
    ·
      intro gh gh' h
      rfl
    apply GJ.st0 2 rfl
    iterate 3 focus (intros; (conv => lhs; simp only [slotsZ, zlAt, vs0, resL, at2, eq_self, Nat.reduceEqDiff, reduceIte, Nat.reduceSub, Nat.reduceAdd, List.cons_append, List.nil_append]); all_goals rfl)
    ·
      intro gh X K zq zc zq2 zc2 zb zv hK
      refine J.p (PR.quo rfl rfl (by decide) (nw _ (by omega))) rfl ?_
      refine J.nilK ?_
      exact hK zq zc zq2 zc2 zb zv
    ·
      intro gh gh' h
      rfl
    apply GJ.st0 3 rfl
    iterate 3 focus (intros; (conv => lhs; simp only [slotsZ, zlAt, vs0, resL, at2, eq_self, Nat.reduceEqDiff, reduceIte, Nat.reduceSub, Nat.reduceAdd, List.cons_append, List.nil_append]); all_goals rfl)
    ·
      intro gh X K zq zc zq2 zc2 zb zv hK
      refine J.call fn34 rfl rfl fun w hH => (hrec _ rfl (by omega) _ _ hH).mono ?_
      rintro _ w ⟨rfl, hH⟩
      refine ⟨_, rfl, fun a hF => J.of hF hH ?_⟩
      refine J.nilK ?_
      exact hK zq zc zq2 zc2 zb zv
    ·
      intro gh gh' h
      rfl
    apply GJ.st0 4 rfl
    iterate 3 focus (intros; (conv => lhs; simp only [slotsZ, zlAt, vs0, resL, at2, eq_self, Nat.reduceEqDiff, reduceIte, Nat.reduceSub, Nat.reduceAdd, List.cons_append, List.nil_append]); all_goals rfl)
    ·
      intro gh X K zq zc zq2 zc2 zb zv hK
      refine J.p (PR.move rfl) rfl ?_
      refine J.nilK ?_
      exact hK zq zc zq2 zc2 zb zv
    ·
      intro gh gh' h
      rfl
    apply GJ.st0 5 rfl
    iterate 3 focus (intros; (conv => lhs; simp only [slotsZ, zlAt, vs0, resL, at2, eq_self, Nat.reduceEqDiff, reduceIte, Nat.reduceSub, Nat.reduceAdd, List.cons_append, List.nil_append]); all_goals rfl)
    ·
      intro gh X K zq zc zq2 zc2 zb zv hK
      refine J.p (PR.rem rfl rfl (by decide) rfl) rfl ?_
      refine J.nilK ?_
      exact hK zq zc zq2 zc2 zb zv
    ·
      intro gh gh' h
      rfl
    apply GJ.st0 6 rfl
    iterate 3 focus (intros; (conv => lhs; simp only [slotsZ, zlAt, vs0, resL, at2, eq_self, Nat.reduceEqDiff, reduceIte, Nat.reduceSub, Nat.reduceAdd, List.cons_append, List.nil_append]); all_goals rfl)
    ·
      intro gh X K zq zc zq2 zc2 zb zv hK
      refine J.p (PR.add rfl rfl (by first | exact nw _ (by omega) | rfl)) rfl ?_
      refine J.nilK ?_
      exact hK zq zc zq2 zc2 zb zv
    ·
      intro gh gh' h
      rfl
    apply GJ.st0 7 rfl
    iterate 3 focus (intros; (conv => lhs; simp only [slotsZ, zlAt, vs0, resL, at2, eq_self, Nat.reduceEqDiff, reduceIte, Nat.reduceSub, Nat.reduceAdd, List.cons_append, List.nil_append]); all_goals rfl)
    ·
      intro gh X K zq zc zq2 zc2 zb zv hK
      refine J.p (PR.conv u2 u5 rfl (su8_id (by omega))) rfl ?_
      refine J.nilK ?_
      exact hK zq zc zq2 zc2 zb zv
    ·
      intro gh gh' h
      rfl
    apply GJ.st1 8 rfl
    iterate 3 focus (intros; (conv => lhs; simp only [slotsZ, zlAt, vs0, resL, at2, eq_self, Nat.reduceEqDiff, reduceIte, Nat.reduceSub, Nat.reduceAdd, List.cons_append, List.nil_append]); all_goals rfl)
    ·
      intro gh X K zq zc zq2 zc2 zb zv hK
      refine J.mk (MK.lit1S u83 ze5 sz5 rfl rfl) rfl fun qo17 co17 => ?_
      refine J.nilK ?_
      exact hK qo17 co17 zq2 zc2 zb zv
    ·
      intro gh gh' h
      refine ⟨?_, ?_⟩ <;> rfl
    apply GJ.st0 9 rfl
    iterate 3 focus (intros; (conv => lhs; simp only [slotsZ, zlAt, vs0, resL, at2, eq_self, Nat.reduceEqDiff, reduceIte, Nat.reduceSub, Nat.reduceAdd, List.cons_append, List.nil_append]); all_goals rfl)
    ·
      intro gh X K zq zc zq2 zc2 zb zv hK
      refine J.p (PR.str1 u83 u5 u9 rfl At.z (by omega)) rfl ?_
      refine J.nilK ?_
      exact hK zq zc zq2 zc2 zb zv
    ·
      intro gh gh' h
      first | simp only [h 7 rfl] | rfl
    apply GJ.st0 10 rfl
    iterate 3 focus (intros; (conv => lhs; simp only [slotsZ, zlAt, vs0, resL, at2, eq_self, Nat.reduceEqDiff, reduceIte, Nat.reduceSub, Nat.reduceAdd, List.cons_append, List.nil_append]); all_goals rfl)
    ·
      intro gh X K zq zc zq2 zc2 zb zv hK
      refine J.p (PR.strAdd rfl rfl (by simp only [List.length_append, List.length_cons, List.length_nil] at *; omega)) rfl ?_
      refine J.nilK ?_
      exact hK zq zc zq2 zc2 zb zv
    ·
      intro gh gh' h
      first | simp only [h 7 rfl] | rfl
    apply GJ.st0 11 rfl
    iterate 3 focus (intros; (conv => lhs; simp only [slotsZ, zlAt, vs0, resL, at2, eq_self, Nat.reduceEqDiff, reduceIte, Nat.reduceSub, Nat.reduceAdd, List.cons_append, List.nil_append]); all_goals rfl)
    ·
      intro gh X K zq zc zq2 zc2 zb zv hK
      refine J.p (PR.assign rfl) rfl ?_
      refine J.nilK ?_
      exact hK zq zc zq2 zc2 zb zv
    ·
      intro gh gh' h
      first | simp only [h 7 rfl] | rfl
    apply GJ.close [0, 1, 2, 3, 4, 5, 6, 7, 8, 9, 10] [0, 1, 2, 3, 4, 5, 6, 7, 8, 9, 10] foll0 rfl rfl rfl (by rfl)
    iterate 2 focus (intros; (conv => lhs; simp only [slotsZ, zlAt, vs0, resL, at2, eq_self, Nat.reduceEqDiff, reduceIte, Nat.reduceSub, Nat.reduceAdd, List.cons_append, List.nil_append]); all_goals rfl)
    intro gh
    generalize (gh 7).c = co17
    generalize (gh 7).q = qo17
    clear gh
    refine EJ.thenN (hK5 ?_)
    refine CJ.ret ?_
    refine EJ.ret1 rfl (Res.tmp rfl) fun w hH => ?_
    replace hH := hH.tail
    exact ⟨by rw [decL_big hx.1 (by omega)], hH⟩
theorem l01Dec_n {B : World} {H0 H : HP} : ∀ (n : Nat) (x : Int), x.toNat ≤ n → 0 ≤ x ∧ x ≤ 9223372036854775807 → ∀ (L : List SA) (w : World), Hp B H0 H L w → Calls Tryd.prog 34 [.int .i64 x].toArray w fun r w' => r = .returned (sV (decL x)) ∧ Hp B H0 H L w'
  | 0, x, h, hx, L, w, hH => l01DecX_c hx (fun y _ h10 => by omega) hH
  | n + 1, x, h, hx, L, w, hH => l01DecX_c hx (fun y hy h10 L w hH => by
      have hq0 : 0 ≤ x.tdiv 10 ∧ x.tdiv 10 * 10 ≤ x := by rw [Int.tdiv_eq_ediv_of_nonneg hx.1]; omega
      exact l01Dec_n n y (by omega) (by omega) L w hH) hH
theorem l01Dec_c {B : World} {H0 H : HP} {L : List SA} {w : World} {x : Int} (hx : 0 ≤ x ∧ x ≤ 9223372036854775807) (hH : Hp B H0 H L w) : Calls Tryd.prog 34 [.int .i64 x].toArray w fun r w' => r = .returned (sV (decL x)) ∧ Hp B H0 H L w' := l01Dec_n _ x (Nat.le_refl _) hx L w hH
theorem vS {a b : List UInt8} (h : a = b) : some (sV a) = some (sV b) := by rw [h]
theorem preT_p {ts : List Term} {k : Nat} (h : 0 < k) : preT ts k ++ [43] ++ decL (tm ts k).fac ++ [42] ++ nameT (tm ts k).mono = preT ts (k + 1) := by
  simp only [preT, termT]
  rw [if_pos h]
  simp only [List.append_assoc]
theorem preT_z {ts : List Term} {k : Nat} (h : ¬ 0 < k) : preT ts k ++ decL (tm ts k).fac ++ [42] ++ nameT (tm ts k).mono = preT ts (k + 1) := by
  simp only [preT, termT]
  rw [if_neg h]
  simp only [List.append_assoc]
set_option maxHeartbeats 2000000 in
set_option maxRecDepth 10000 in
theorem l01Name_c {B : World} {H0 H : HP} {L : List SA} {w : World} {m : List Int}  (hm : Mono m) (hH : Hp B H0 H L w) :
    Calls Tryd.prog 35 [.agg (bytesC m).toArray].toArray w fun e w' => e = .returned (sV (nameT m)) ∧ Hp B H0 H L w' := by
  refine CJ.enter Tryd.func35 rfl 34 rfl rfl [(0, .agg (bytesC m).toArray)] rfl hH ?_
  have hml := hm.len
  clear hH
  have hmb := hm.bd
  have hml9 := fun k => monT_len hmb k
  refine CJ.seq fun _ hK1 _ => ?_
  refine CJ.region ?_
  refine J.box rfl rfl rfl fun g1 => ?_
  refine J.p (PR.assign rfl) rfl ?_
  refine J.nil ?_
  refine EJ.thenN (hK1 ?_)
  refine CJ.seq fun _ hK2 _ => ?_
  refine CJ.region ?_
  refine J.p (PR.assign rfl) rfl ?_
  refine J.nil ?_
  refine EJ.thenN (hK2 ?_)
  refine CJ.seq fun _ hK3 _ => ?_
  refine CJ.seq fun _ hK4 _ => ?_
  refine CJ.region ?_
  refine J.p (PR.assign rfl) rfl ?_
  refine J.nil ?_
  refine EJ.thenN (hK4 ?_)
  refine CJ.block ?_
  refine CJ.loopU (σ := Nat) (fun (i : Nat) => [(4, .int .i64 (i : Int)), (3, sV (monT m i))]) (fun (i : Nat) => H) (fun (i : Nat) => obj g1 (.cells (bytesC m).toArray 64 (0, 0)) :: L) (fun (i : Nat) => i ≤ 8) (fun (i : Nat) => 8 - i) 0 (by omega) ⟨rfl, ⟨rfl, trivial⟩⟩ rfl rfl ?_
  rintro i hi _ hAg0
  have hli := hml9 i
  have hmi := hmb i
  have hdl := decL_len (n := m.getD i 0) hmi.1 (by omega)
  refine CJ.seq fun _ hK5 _ => ?_
  refine CJ.seq fun _ hK6 _ => ?_
  refine CJ.region ?_
  refine J.p (PR.move rfl) rfl ?_
  refine J.p (PR.lss rfl rfl) rfl ?_
  refine J.nil ?_
  refine EJ.thenN (hK6 ?_)
  refine CJ.condD rfl (fun hc6 => ?_) (fun hc6 => ?_)
  ·
    refine CJ.skip ?_
    refine EJ.thenN (hK5 ?_)
    refine CJ.seq fun _ hK7 _ => ?_
    refine CJ.block ?_
    refine CJ.seq fun _ hK8 _ => ?_
    refine CJ.seq fun _ hK9 _ => ?_
    refine CJ.region ?_
    refine J.p (PR.move rfl) rfl ?_
    refine J.p (PR.idxA1 u64 sz5 rfl rfl rfl (by omega)) rfl ?_
    refine J.p (PR.load rfl At.z (by first | exact bytesC_get (by simp [*]; omega) | exact intsC_get (by simp [*]; omega)) pl5) rfl ?_
    refine J.p (PR.gtr rfl rfl) rfl ?_
    refine J.nil ?_
    refine EJ.thenN (hK9 ?_)
    refine CJ.condD rfl (fun h12 => ?_) (fun h12 => ?_)
    ·
      refine CJ.region ?_
      refine J.p (PR.move rfl) rfl ?_
      refine J.p (PR.move rfl) rfl ?_
      refine J.p (PR.add rfl rfl (by first | exact nw _ (by omega) | rfl)) rfl ?_
      refine J.p (PR.conv u3 u5 rfl (su8_id (by omega))) rfl ?_
      refine J.mk (MK.lit1S u83 ze5 sz5 rfl rfl) rfl fun qo17 co17 => ?_
      refine J.p (PR.str1 u83 u5 u9 rfl At.z (by omega)) rfl ?_
      refine J.p (PR.strAdd rfl rfl (by first | omega | (simp only [List.length_append, List.length_singleton]; omega))) rfl ?_
      refine J.p (PR.assign rfl) rfl ?_
      refine J.nil ?_
      refine EJ.thenN (hK8 ?_)
      refine CJ.seq fun _ hK10 _ => ?_
      refine CJ.region ?_
      refine J.p (PR.move rfl) rfl ?_
      refine J.p (PR.idxA1 u64 sz5 rfl rfl rfl (by omega)) rfl ?_
      refine J.p (PR.load rfl (.s .z) (by first | exact bytesC_get (by simp [*]; omega) | exact intsC_get (by simp [*]; omega)) pl5) rfl ?_
      refine J.p (PR.gtr rfl rfl) rfl ?_
      refine J.nil ?_
      refine EJ.thenN (hK10 ?_)
      refine CJ.condD rfl (fun h23 => ?_) (fun h23 => ?_)
      ·
        refine CJ.region ?_
        refine J.p (PR.move rfl) rfl ?_
        refine J.p (PR.move rfl) rfl ?_
        refine J.p (PR.idxA1 u64 sz5 rfl rfl rfl (by omega)) rfl ?_
        refine J.p (PR.load rfl (.s .z) (by first | exact bytesC_get (by simp [*]; omega) | exact intsC_get (by simp [*]; omega)) pl5) rfl ?_
        refine J.p (PR.conv u5 u2 rfl (by first | exact nw _ (by omega) | rfl)) rfl ?_
        refine J.call fn34 rfl rfl fun w hH => (l01Dec_c (by omega) hH).mono ?_
        rintro _ w ⟨rfl, hH⟩
        refine ⟨_, rfl, fun a hF => J.of hF hH ?_⟩
        refine J.p (PR.strAdd rfl rfl (by first | omega | (simp only [List.length_append, List.length_singleton]; omega))) rfl ?_
        refine J.p (PR.assign rfl) rfl ?_
        refine J.nil ?_
        refine EJ.inN ?_
        refine EJ.thenN (hK7 ?_)
        refine CJ.region ?_
        refine J.p (PR.move rfl) rfl ?_
        refine J.p (PR.add rfl rfl (by first | exact nw _ (by omega) | rfl)) rfl ?_
        refine J.p (PR.assign rfl) rfl ?_
        refine J.nil ?_
        refine EJ.thenN ?_
        refine EJ.drop .z ?_
        exact hAg0 (i + 1) (by omega) (by omega) 31 rfl rfl ⟨rfl, ⟨(vS (monT_yy h12 h23)), trivial⟩⟩ rfl rfl
      ·
        refine CJ.skip ?_
        refine EJ.inN ?_
        refine EJ.thenN (hK7 ?_)
        refine CJ.region ?_
        refine J.p (PR.move rfl) rfl ?_
        refine J.p (PR.add rfl rfl (by first | exact nw _ (by omega) | rfl)) rfl ?_
        refine J.p (PR.assign rfl) rfl ?_
        refine J.nil ?_
        refine EJ.thenN ?_
        refine EJ.drop .z ?_
        exact hAg0 (i + 1) (by omega) (by omega) 23 rfl rfl ⟨rfl, ⟨(vS (monT_yn h12 h23)), trivial⟩⟩ rfl rfl
    ·
      refine CJ.skip ?_
      refine EJ.thenN (hK8 ?_)
      refine CJ.seq fun _ hK11 _ => ?_
      refine CJ.region ?_
      refine J.p (PR.move rfl) rfl ?_
      refine J.p (PR.idxA1 u64 sz5 rfl rfl rfl (by omega)) rfl ?_
      refine J.p (PR.load rfl At.z (by first | exact bytesC_get (by simp [*]; omega) | exact intsC_get (by simp [*]; omega)) pl5) rfl ?_
      refine J.p (PR.gtr rfl rfl) rfl ?_
      refine J.nil ?_
      refine EJ.thenN (hK11 ?_)
      refine CJ.condD rfl (fun h23 => ?_) (fun h23 => ?_)
      ·
        refine CJ.region ?_
        refine J.p (PR.move rfl) rfl ?_
        refine J.p (PR.move rfl) rfl ?_
        refine J.p (PR.idxA1 u64 sz5 rfl rfl rfl (by omega)) rfl ?_
        refine J.p (PR.load rfl At.z (by first | exact bytesC_get (by simp [*]; omega) | exact intsC_get (by simp [*]; omega)) pl5) rfl ?_
        refine J.p (PR.conv u5 u2 rfl (by first | exact nw _ (by omega) | rfl)) rfl ?_
        refine J.call fn34 rfl rfl fun w hH => (l01Dec_c (by omega) hH).mono ?_
        rintro _ w ⟨rfl, hH⟩
        refine ⟨_, rfl, fun a hF => J.of hF hH ?_⟩
        refine J.p (PR.strAdd rfl rfl (by first | omega | (simp only [List.length_append, List.length_singleton]; omega))) rfl ?_
        refine J.p (PR.assign rfl) rfl ?_
        refine J.nil ?_
        refine EJ.inN ?_
        refine EJ.thenN (hK7 ?_)
        refine CJ.region ?_
        refine J.p (PR.move rfl) rfl ?_
        refine J.p (PR.add rfl rfl (by first | exact nw _ (by omega) | rfl)) rfl ?_
        refine J.p (PR.assign rfl) rfl ?_
        refine J.nil ?_
        refine EJ.thenN ?_
        exact hAg0 (i + 1) (by omega) (by omega) 23 rfl rfl ⟨rfl, ⟨(by exfalso; omega), trivial⟩⟩ rfl rfl
      ·
        refine CJ.skip ?_
        refine EJ.inN ?_
        refine EJ.thenN (hK7 ?_)
        refine CJ.region ?_
        refine J.p (PR.move rfl) rfl ?_
        refine J.p (PR.add rfl rfl (by first | exact nw _ (by omega) | rfl)) rfl ?_
        refine J.p (PR.assign rfl) rfl ?_
        refine J.nil ?_
        refine EJ.thenN ?_
        exact hAg0 (i + 1) (by omega) (by omega) 15 rfl rfl ⟨rfl, ⟨(vS (monT_nn h12)), trivial⟩⟩ rfl rfl
  ·
    refine CJ.exit ?_
    refine EJ.thenE ?_
    refine EJ.thenE ?_
    refine EJ.inE ?_
    refine EJ.thenN (hK3 ?_)
    refine CJ.seq fun _ hK12 _ => ?_
    refine CJ.seq fun _ hK13 _ => ?_
    refine CJ.region ?_
    refine J.p (PR.move rfl) rfl ?_
    refine J.p (PR.strEql rfl rfl) rfl ?_
    refine J.nil ?_
    refine EJ.thenN (hK13 ?_)
    refine CJ.condD rfl (fun h32 => ?_) (fun h32 => ?_)
    ·
      refine CJ.seq fun _ hK14 _ => ?_
      refine CJ.region ?_
      refine J.p (PR.assign rfl) rfl ?_
      refine J.nil ?_
      refine EJ.thenN (hK14 ?_)
      refine CJ.ret ?_
      refine EJ.thenR ?_
      refine EJ.ret1 rfl (Res.tmp rfl) fun w hH => ?_
      replace hH := hH.tail
      obtain rfl : i = 8 := by omega
      exact ⟨by unfold nameT; rw [if_pos h32], hH⟩
    ·
      refine CJ.skip ?_
      refine EJ.thenN (hK12 ?_)
      refine CJ.seq fun _ hK15 _ => ?_
      refine CJ.region ?_
      refine J.p (PR.move rfl) rfl ?_
      refine J.p (PR.assign rfl) rfl ?_
      refine J.nil ?_
      refine EJ.thenN (hK15 ?_)
      refine CJ.ret ?_
      refine EJ.ret1 rfl (Res.tmp rfl) fun w hH => ?_
      replace hH := hH.tail
      obtain rfl : i = 8 := by omega
      exact ⟨by unfold nameT; rw [if_neg h32], hH⟩
set_option maxHeartbeats 4000000 in
set_option maxRecDepth 10000 in
theorem l01Text_c {B : World} {H0 H : HP} {L : List SA} {w : World} {qts : Option Addr} {cts : Nat} {ts : List Term}  (hts : Terms H qts ts) (hl : ts.length ≤ 400) (hf : ∀ i, i < ts.length → 0 ≤ (tm ts i).fac) (hH : Hp B H0 H L w) :
    Calls Tryd.prog 19 [.agg [.slice qts ts.length cts].toArray].toArray w fun e w' => e = .returned (sV (textT ts)) ∧ Hp B H0 H L w' := by
  refine CJ.enter Tryd.func19 rfl 39 rfl rfl [(0, .agg [.slice qts ts.length cts].toArray)] rfl hH ?_
  clear hH
  have hp9 := fun k (h : k ≤ ts.length) => preT_len hts.wfs hf h
  refine CJ.seq fun _ hK1 _ => ?_
  refine CJ.region ?_
  refine J.box rfl rfl rfl fun g1 => ?_
  refine J.p (PR.assign rfl) rfl ?_
  refine J.nil ?_
  refine EJ.thenN (hK1 ?_)
  refine CJ.seq fun _ hK2 _ => ?_
  refine CJ.seq fun _ hK3 _ => ?_
  refine CJ.region ?_
  refine J.p (PR.fldA u32 rfl sz30 rfl) rfl ?_
  refine J.p (PR.load rfl At.z rfl pl30) rfl ?_
  refine J.p (PR.lenSlice u30 rfl rfl) rfl ?_
  refine J.p (PR.eql rfl rfl) rfl ?_
  refine J.nil ?_
  refine EJ.thenN (hK3 ?_)
  refine CJ.condD rfl (fun h8 => ?_) (fun h8 => ?_)
  ·
    refine CJ.seq fun _ hK4 _ => ?_
    refine CJ.region ?_
    refine J.p (PR.assign rfl) rfl ?_
    refine J.nil ?_
    refine EJ.thenN (hK4 ?_)
    refine CJ.ret ?_
    refine EJ.thenR ?_
    refine EJ.ret1 rfl (Res.tmp rfl) fun w hH => ?_
    replace hH := hH.tail
    exact ⟨by unfold textT; rw [if_pos (by omega)], hH⟩
  ·
    refine CJ.skip ?_
    refine EJ.thenN (hK2 ?_)
    refine CJ.seq fun _ hK5 _ => ?_
    refine CJ.region ?_
    refine J.p (PR.assign rfl) rfl ?_
    refine J.nil ?_
    refine EJ.thenN (hK5 ?_)
    refine CJ.seq fun _ hK6 _ => ?_
    refine CJ.seq fun _ hK7 _ => ?_
    refine CJ.region ?_
    refine J.p (PR.assign rfl) rfl ?_
    refine J.nil ?_
    refine EJ.thenN (hK7 ?_)
    refine CJ.block ?_
    refine CJ.loopU (σ := Nat) (fun (i : Nat) => [(4, .int .i64 (i : Int)), (3, sV (preT ts i))]) (fun (i : Nat) => H) (fun (i : Nat) => obj g1 (.cells [.slice qts ts.length cts].toArray 32 (0, 0)) :: L) (fun (i : Nat) => i ≤ ts.length) (fun (i : Nat) => ts.length - i) 0 (by omega) ⟨rfl, ⟨rfl, trivial⟩⟩ rfl rfl ?_
    rintro i hi _ hAg0
    have hpl := hp9 i hi
    refine CJ.seq fun _ hK8 _ => ?_
    refine CJ.seq fun _ hK9 _ => ?_
    refine CJ.region ?_
    refine J.p (PR.move rfl) rfl ?_
    refine J.p (PR.fldA u32 rfl sz30 rfl) rfl ?_
    refine J.p (PR.load rfl At.z rfl pl30) rfl ?_
    refine J.p (PR.lenSlice u30 rfl rfl) rfl ?_
    refine J.p (PR.lss rfl rfl) rfl ?_
    refine J.nil ?_
    refine EJ.thenN (hK9 ?_)
    refine CJ.condD rfl (fun h13 => ?_) (fun h13 => ?_)
    ·
      have hil : i < ts.length := by omega
      have hfi := hf i hil
      have hmw := (hts.wf i hil)
      have hfu := hmw.fac.2
      have hdl := decL_len hfi hmw.fac.2
      have hnl := nameT_len hmw.mono.bd
      refine CJ.skip ?_
      refine EJ.thenN (hK8 ?_)
      refine CJ.seq fun _ hK10 _ => ?_
      refine CJ.block ?_
      refine CJ.seq fun _ hK11 _ => ?_
      refine CJ.seq fun _ hK12 _ => ?_
      refine CJ.region ?_
      refine J.p (PR.move rfl) rfl ?_
      refine J.p (PR.gtr rfl rfl) rfl ?_
      refine J.nil ?_
      refine EJ.thenN (hK12 ?_)
      refine CJ.condD rfl (fun h17 => ?_) (fun h17 => ?_)
      ·
        refine CJ.region ?_
        refine J.p (PR.move rfl) rfl ?_
        refine J.p (PR.strAdd rfl rfl (by first | omega | (simp only [List.length_append, List.length_singleton]; omega))) rfl ?_
        refine J.p (PR.assign rfl) rfl ?_
        refine J.nil ?_
        refine EJ.thenN (hK11 ?_)
        refine CJ.head [[], [], [1], [], [2, 3], [4], [5], [6], [0, 7], [8], [], [10], [], [11, 12], [13], [14], [15]] (by kernel_rfl) ?_
        refine HJ.op (fun gh => PR.move rfl) ?_
        refine HJ.op (fun gh => PR.fldA u32 rfl sz30 rfl) ?_
        refine HJ.op (fun gh => PR.load rfl At.z rfl pl30) ?_
        refine HJ.op (fun gh => PR.move rfl) ?_
        refine HJ.op (fun gh => PR.idx u30 sz66 rfl rfl rfl (by omega) hts.sm) ?_
        refine HJ.op (fun gh => PR.fldP u66 rfl sz2 rfl (hts.sm (i := i) (by omega))) ?_
        refine HJ.op (fun gh => PR.loadH rfl (hts.fac (by omega)) pl2) ?_
        refine HJ.call fn34 (fun gh => rfl) (fun w X hH => l01Dec_c (by omega) hH) ?_
        refine HJ.op (fun gh => PR.strAdd rfl rfl (by first | omega | (simp only [List.length_append, List.length_singleton]; omega))) ?_
        refine HJ.op (fun gh => PR.strAdd rfl rfl (by first | omega | (simp only [List.length_append, List.length_singleton]; omega))) ?_
        refine HJ.op (fun gh => PR.fldA u32 rfl sz30 rfl) ?_
        refine HJ.op (fun gh => PR.load rfl At.z rfl pl30) ?_
        refine HJ.op (fun gh => PR.move rfl) ?_
        refine HJ.op (fun gh => PR.idx u30 sz66 rfl rfl rfl (by omega) hts.sm) ?_
        refine HJ.op (fun gh => PR.fldP u66 rfl sz64 rfl (hts.sm (i := i) (by omega))) ?_
        refine HJ.op (fun gh => PR.loadHagg rfl (hts.mono (by omega)) (hts.sm (i := i) (by omega)) (by rw [bytesC_length, (hts.wf _ (by omega)).mono.len]; exact ag64)) ?_
        refine HJ.call fn35 (fun gh => rfl) (fun w X hH => l01Name_c (hts.wf i (by omega)).mono hH) ?_
        refine HJ.close 17 0 foll0 (by kernel_rfl) rfl rfl fun gh => ?_
        refine J.conv (us' := (20, _) :: (21, _) :: (22, _) :: (23, _) :: (24, _) :: (25, _) :: (26, _) :: (27, _) :: (28, _) :: (29, _) :: (30, _) :: (31, _) :: (32, _) :: (33, _) :: (34, _) :: (35, _) :: (36, _) :: _) (L' := _) rfl rfl ?_
        refine J.nil ?_
        refine EJ.still ?_
        refine JS.op (PR.strAdd rfl rfl (by first | omega | (simp only [List.length_append, List.length_singleton]; omega))) rfl ?_
        refine JS.op (PR.assign rfl) rfl ?_
        refine JS.nil ?_
        refine EJ.inN ?_
        refine EJ.thenN (hK10 ?_)
        refine CJ.region ?_
        refine J.p (PR.move rfl) rfl ?_
        refine J.p (PR.add rfl rfl (by first | exact nw _ (by omega) | rfl)) rfl ?_
        refine J.p (PR.assign rfl) rfl ?_
        refine J.nil ?_
        refine EJ.thenN ?_
        exact hAg0 (i + 1) (by omega) (by omega) 34 rfl rfl ⟨rfl, ⟨(vS (preT_p (by omega))), trivial⟩⟩ rfl rfl
      ·
        refine CJ.skip ?_
        refine EJ.thenN (hK11 ?_)
        refine CJ.head [[], [], [1], [], [2, 3], [4], [5], [6], [0, 7], [8], [], [10], [], [11, 12], [13], [14], [15]] (by kernel_rfl) ?_
        refine HJ.op (fun gh => PR.move rfl) ?_
        refine HJ.op (fun gh => PR.fldA u32 rfl sz30 rfl) ?_
        refine HJ.op (fun gh => PR.load rfl At.z rfl pl30) ?_
        refine HJ.op (fun gh => PR.move rfl) ?_
        refine HJ.op (fun gh => PR.idx u30 sz66 rfl rfl rfl (by omega) hts.sm) ?_
        refine HJ.op (fun gh => PR.fldP u66 rfl sz2 rfl (hts.sm (i := i) (by omega))) ?_
        refine HJ.op (fun gh => PR.loadH rfl (hts.fac (by omega)) pl2) ?_
        refine HJ.call fn34 (fun gh => rfl) (fun w X hH => l01Dec_c (by omega) hH) ?_
        refine HJ.op (fun gh => PR.strAdd rfl rfl (by first | omega | (simp only [List.length_append, List.length_singleton]; omega))) ?_
        refine HJ.op (fun gh => PR.strAdd rfl rfl (by first | omega | (simp only [List.length_append, List.length_singleton]; omega))) ?_
        refine HJ.op (fun gh => PR.fldA u32 rfl sz30 rfl) ?_
        refine HJ.op (fun gh => PR.load rfl At.z rfl pl30) ?_
        refine HJ.op (fun gh => PR.move rfl) ?_
        refine HJ.op (fun gh => PR.idx u30 sz66 rfl rfl rfl (by omega) hts.sm) ?_
        refine HJ.op (fun gh => PR.fldP u66 rfl sz64 rfl (hts.sm (i := i) (by omega))) ?_
        refine HJ.op (fun gh => PR.loadHagg rfl (hts.mono (by omega)) (hts.sm (i := i) (by omega)) (by rw [bytesC_length, (hts.wf _ (by omega)).mono.len]; exact ag64)) ?_
        refine HJ.call fn35 (fun gh => rfl) (fun w X hH => l01Name_c (hts.wf i (by omega)).mono hH) ?_
        refine HJ.close 17 0 foll0 (by kernel_rfl) rfl rfl fun gh => ?_
        refine J.conv (us' := (20, _) :: (21, _) :: (22, _) :: (23, _) :: (24, _) :: (25, _) :: (26, _) :: (27, _) :: (28, _) :: (29, _) :: (30, _) :: (31, _) :: (32, _) :: (33, _) :: (34, _) :: (35, _) :: (36, _) :: _) (L' := _) rfl rfl ?_
        refine J.nil ?_
        refine EJ.still ?_
        refine JS.op (PR.strAdd rfl rfl (by first | omega | (simp only [List.length_append, List.length_singleton]; omega))) rfl ?_
        refine JS.op (PR.assign rfl) rfl ?_
        refine JS.nil ?_
        refine EJ.inN ?_
        refine EJ.thenN (hK10 ?_)
        refine CJ.region ?_
        refine J.p (PR.move rfl) rfl ?_
        refine J.p (PR.add rfl rfl (by first | exact nw _ (by omega) | rfl)) rfl ?_
        refine J.p (PR.assign rfl) rfl ?_
        refine J.nil ?_
        refine EJ.thenN ?_
        exact hAg0 (i + 1) (by omega) (by omega) 31 rfl rfl ⟨rfl, ⟨(vS (preT_z (by omega))), trivial⟩⟩ rfl rfl
    ·
      refine CJ.exit ?_
      refine EJ.thenE ?_
      refine EJ.thenE ?_
      refine EJ.inE ?_
      refine EJ.thenN (hK6 ?_)
      refine CJ.seq fun _ hK13 _ => ?_
      refine CJ.region ?_
      refine J.p (PR.move rfl) rfl ?_
      refine J.p (PR.assign rfl) rfl ?_
      refine J.nil ?_
      refine EJ.thenN (hK13 ?_)
      refine CJ.ret ?_
      refine EJ.ret1 rfl (Res.tmp rfl) fun w hH => ?_
      replace hH := hH.tail
      obtain rfl : i = ts.length := by omega
      exact ⟨by rw [preT_end ts (by omega)], hH⟩
end Go.Proofs.YtbjhllmcnfncdaaDoor.G
namespace Go.Proofs
open Go.Shelf
def Tryd.lays156_ren : Go.Shelf.Ren := ⟨fun | 156 => 41 | 165 => 61 | 166 => 62 | 169 => 63 | 240 => 77 | 241 => 78 | 276 => 89 | 277 => 90 | n => n, fun | 31 => 71 | 9 => 9 | 3 => 3 | 4 => 4 | 0 => 0 | 20 => 20 | 72 => 94 | 76 => 98 | 70 => 92 | 37 => 83 | 75 => 97 | 127 => 113 | 164 => 126 | 5 => 5 | 80 => 100 | n => n, fun | n => n⟩
theorem Tryd.lays156 : Go.Proofs.Lays.n156 Tryd.prog Tryd.lays156_ren := {
  mixed := by kernel_rfl
  f156 := Tryd.func41.trans (congrArg some (by kernel_rfl))
  f165 := Tryd.func61.trans (congrArg some (by kernel_rfl))
  f166 := Tryd.func62.trans (congrArg some (by kernel_rfl))
  f169 := Tryd.func63.trans (congrArg some (by kernel_rfl))
  f240 := Tryd.func77.trans (congrArg some (by kernel_rfl))
  f241 := Tryd.func78.trans (congrArg some (by kernel_rfl))
  f276 := Tryd.func89.trans (congrArg some (by kernel_rfl))
  f277 := Tryd.func90.trans (congrArg some (by kernel_rfl))
  t0 := Tryd.underlying0
  a0 := Tryd.isAgg0
  z0 := Tryd.sizeOf0
  v0 := Tryd.zeroValue0
  t3 := Tryd.underlying3
  a3 := Tryd.isAgg3
  z3 := Tryd.sizeOf3
  v3 := Tryd.zeroValue3
  t4 := Tryd.underlying4
  a4 := Tryd.isAgg4
  z4 := Tryd.sizeOf4
  v4 := Tryd.zeroValue4
  t9 := Tryd.underlying9
  a9 := Tryd.isAgg9
  z9 := Tryd.sizeOf9
  v9 := Tryd.zeroValue9
  t20 := Tryd.underlying20
  a20 := Tryd.isAgg20
  z20 := Tryd.sizeOf20
  v20 := Tryd.zeroValue20
  t31 := Tryd.underlying71
  a31 := Tryd.isAgg71
  z31 := Tryd.sizeOf71
  v31 := Tryd.zeroValue71
  t37 := Tryd.underlying83
  a37 := Tryd.isAgg83
  z37 := Tryd.sizeOf83
  v37 := Tryd.zeroValue83
  t70 := Tryd.underlying92
  a70 := Tryd.isAgg92
  z70 := Tryd.sizeOf92
  v70 := Tryd.zeroValue92
  t72 := Tryd.underlying94
  a72 := Tryd.isAgg94
  z72 := Tryd.sizeOf94
  v72 := Tryd.zeroValue94
  t75 := Tryd.underlying97
  a75 := Tryd.isAgg97
  z75 := Tryd.sizeOf97
  v75 := Tryd.zeroValue97
  t76 := Tryd.underlying98
  a76 := Tryd.isAgg98
  z76 := Tryd.sizeOf98
  v76 := Tryd.zeroValue98
  t127 := Tryd.underlying113
  a127 := Tryd.isAgg113
  z127 := Tryd.sizeOf113
  v127 := Tryd.zeroValue113
  t164 := Tryd.underlying126
  a164 := Tryd.isAgg126
  z164 := Tryd.sizeOf126
  v164 := Tryd.zeroValue126 }
theorem Tryd.Builder_Extra_156 : Builder.Extra Tryd.prog Tryd.lays156_ren := {
  sizeBuilder := by kernel_rfl
  liesBuilder := by kernel_rfl
  t5 := Tryd.underlying5
  a5 := Tryd.isAgg5
  z5 := Tryd.sizeOf5
  v5 := Tryd.zeroValue5
  infoByte := by kernel_rfl
  cellsByte := by kernel_rfl
  sizeByte := by kernel_rfl
  neB5 := by decide }
open Go.RowKit in
theorem Tryd.strings_Join_none (a : Option Addr) (c : Nat) (sep : ByteArray) (w : World) :
    Calls Tryd.prog 41 #[.slice a 0 c, .string sep] w fun e w' => e = .returned (.string ⟨#[]⟩) ∧ w' = w := Any.strings_Join_none Tryd.lays156 Tryd.Builder_Extra_156 a c sep w
open Go.RowKit in
theorem Tryd.strings_Join (bk o c : Nat) (xs : List ByteArray) (sep : ByteArray) (w : World) (hcells : ∀ (j : Nat) x, xs[j]? = some x → w.cell? ⟨bk, o + j, none⟩ = some (.string x)) (hbk : bk < w.heap.size) (hN : xs.length ≤ 140737488355328) (hcap : xs.length ≤ c) (hlen : (Lib.join (xs.map (·.data.toList)) sep.data.toList).length ≤ 140737488355328) :
    Calls Tryd.prog 41 #[.slice (some ⟨bk, o, none⟩) xs.length c, .string sep] w fun e w' => e = .returned (.string ⟨(Lib.join (xs.map (·.data.toList)) sep.data.toList).toArray⟩) ∧ Below w.heap.size w w' := Any.strings_Join Tryd.lays156 Tryd.Builder_Extra_156 bk o c xs sep w hcells hbk hN hcap hlen
def Tryd.laysM173_ren : Go.Shelf.Ren := ⟨fun | 173 => 60 | 246 => 76 | 283 => 85 | 284 => 86 | 285 => 87 | 286 => 88 | 129 => 96 | 317 => 95 | 318 => 97 | 319 => 98 | 320 => 99 | 337 => 100 | 338 => 101 | n => n, fun | 2 => 2 | 3 => 3 | 9 => 9 | 4 => 4 | 171 => 120 | 0 => 0 | 53 => 121 | 37 => 83 | 5 => 5 | 173 => 124 | 212 => 137 | 51 => 138 | 20 => 20 | 213 => 139 | 46 => 141 | 232 => 144 | 233 => 145 | n => n, fun | 17 => 0 | 18 => 2 | 19 => 3 | n => n⟩
theorem Tryd.laysM173 : Go.Proofs.LaysM.n173 Tryd.prog Tryd.laysM173_ren := {
  mixed := by kernel_rfl
  f129 := Tryd.func96.trans (congrArg some (by kernel_rfl))
  f173 := Tryd.func60.trans (congrArg some (by kernel_rfl))
  f246 := Tryd.func76.trans (congrArg some (by kernel_rfl))
  f283 := Tryd.func85.trans (congrArg some (by kernel_rfl))
  f284 := Tryd.func86.trans (congrArg some (by kernel_rfl))
  f285 := Tryd.func87.trans (congrArg some (by kernel_rfl))
  f286 := Tryd.func88.trans (congrArg some (by kernel_rfl))
  f317 := Tryd.func95.trans (congrArg some (by kernel_rfl))
  f318 := Tryd.func97.trans (congrArg some (by kernel_rfl))
  f319 := Tryd.func98.trans (congrArg some (by kernel_rfl))
  f320 := Tryd.func99.trans (congrArg some (by kernel_rfl))
  f337 := Tryd.func100.trans (congrArg some (by kernel_rfl))
  f338 := Tryd.func101.trans (congrArg some (by kernel_rfl))
  t0 := Tryd.underlying0
  a0 := Tryd.isAgg0
  z0 := Tryd.sizeOf0
  v0 := Tryd.zeroValue0
  t2 := Tryd.underlying2
  a2 := Tryd.isAgg2
  z2 := Tryd.sizeOf2
  v2 := Tryd.zeroValue2
  t3 := Tryd.underlying3
  a3 := Tryd.isAgg3
  z3 := Tryd.sizeOf3
  v3 := Tryd.zeroValue3
  t4 := Tryd.underlying4
  a4 := Tryd.isAgg4
  z4 := Tryd.sizeOf4
  v4 := Tryd.zeroValue4
  t5 := Tryd.underlying5
  a5 := Tryd.isAgg5
  z5 := Tryd.sizeOf5
  v5 := Tryd.zeroValue5
  t9 := Tryd.underlying9
  a9 := Tryd.isAgg9
  z9 := Tryd.sizeOf9
  v9 := Tryd.zeroValue9
  t20 := Tryd.underlying20
  a20 := Tryd.isAgg20
  z20 := Tryd.sizeOf20
  v20 := Tryd.zeroValue20
  t37 := Tryd.underlying83
  a37 := Tryd.isAgg83
  z37 := Tryd.sizeOf83
  v37 := Tryd.zeroValue83
  t46 := Tryd.underlying141
  a46 := Tryd.isAgg141
  z46 := Tryd.sizeOf141
  v46 := Tryd.zeroValue141
  t51 := Tryd.underlying138
  a51 := Tryd.isAgg138
  z51 := Tryd.sizeOf138
  v51 := Tryd.zeroValue138
  t53 := Tryd.underlying121
  a53 := Tryd.isAgg121
  z53 := Tryd.sizeOf121
  v53 := Tryd.zeroValue121
  t171 := Tryd.underlying120
  a171 := Tryd.isAgg120
  z171 := Tryd.sizeOf120
  v171 := Tryd.zeroValue120
  t173 := Tryd.underlying124
  a173 := Tryd.isAgg124
  z173 := Tryd.sizeOf124
  v173 := Tryd.zeroValue124
  t212 := Tryd.underlying137
  a212 := Tryd.isAgg137
  z212 := Tryd.sizeOf137
  v212 := Tryd.zeroValue137
  t213 := Tryd.underlying139
  a213 := Tryd.isAgg139
  z213 := Tryd.sizeOf139
  t232 := Tryd.underlying144
  a232 := Tryd.isAgg144
  z232 := Tryd.sizeOf144
  v232 := Tryd.zeroValue144
  t233 := Tryd.underlying145
  a233 := Tryd.isAgg145
  z233 := Tryd.sizeOf145
  v233 := Tryd.zeroValue145
  g17 := by kernel_rfl
  g18 := by kernel_rfl
  g19 := by kernel_rfl
  i0 := by kernel_rfl
  i2 := by kernel_rfl
  i3 := by kernel_rfl
  i4 := by kernel_rfl
  i5 := by kernel_rfl
  i9 := by kernel_rfl
  i20 := by kernel_rfl
  i37 := by kernel_rfl
  i46 := by kernel_rfl
  i51 := by kernel_rfl
  i53 := by kernel_rfl
  i171 := by kernel_rfl
  i173 := by kernel_rfl
  i212 := by kernel_rfl
  i232 := by kernel_rfl
  i233 := by kernel_rfl
  m17 := by kernel_rfl
  m18 := by kernel_rfl
  m19 := by kernel_rfl }
open Go.RowKit Go.Sort Go.Lib in
theorem Tryd.strconv_FormatInt_10 (n : Int) (h0 : -9223372036854775808 ≤ n) (h1 : n ≤ 9223372036854775807) (w : World) (htab : Lib.TabIs Tryd.prog w "internal/strconv.uint64pow10" .u64 Lib.pow10Tab) :
    Calls Tryd.prog 60 #[.int .i64 n, .int .i64 10] w fun e w' => e = .returned (.string ⟨(Lib.itoa n).toArray⟩) ∧ ∃ k os, w' = grow (w.drewN k) os := Any.strconv_FormatInt_10 Tryd.laysM173 n h0 h1 w htab
end Go.Proofs
namespace Go.Proofs.YtbjhllmcnfncdaaDoor.G
open Go Go.RowKit
namespace Sc
theorem u2 : Tryd.prog.underlying 2 = some (TypeDesc.int .i64) := by kernel_rfl
theorem u21 : Tryd.prog.underlying 21 = some (TypeDesc.int .i32) := by kernel_rfl
theorem u3 : Tryd.prog.underlying 3 = some (TypeDesc.int .i64) := by kernel_rfl
theorem u5 : Tryd.prog.underlying 5 = some (TypeDesc.int .u8) := by kernel_rfl
theorem u64 : Tryd.prog.underlying 64 = some (TypeDesc.array 8 5) := by kernel_rfl
theorem u9 : Tryd.prog.underlying 9 = some (TypeDesc.string) := by kernel_rfl
theorem sz5 : Size Tryd.prog 5 1 := by unfold Size; kernel_rfl
theorem pl5 : Plain Tryd.prog 5 := ⟨_, u5, rfl⟩
theorem ag64 : Agg Tryd.prog 64 8 := ⟨_, u64, rfl, by kernel_rfl⟩
theorem fn39 : Fn Tryd.prog 39 := ⟨_, Tryd.func39, by kernel_rfl, rfl⟩
theorem fn60 : Fn Tryd.prog 60 := ⟨_, Tryd.func60, by kernel_rfl, rfl⟩
end Sc
open Sc
def nmT : String := "internal/strconv.uint64pow10"
theorem si32_id {x : Int} (h : 0 ≤ x ∧ x ≤ 1000000) : IntKind.i32.wrap x = x := by simp [IntKind.wrap, IntKind.signed, IntKind.bits]; omega
theorem joinS_c {B : World} {H0 H : HP} {L : List SA} {w : World} {e : TypeId} {q : Option Addr} {c : Nat} {m : Nat} {xs : List (List UInt8)} {sep : List UInt8} (hxm : xs.length = m) (hm : own e 1 q m c (xs.map sV) ∈ L) (h0 : 0 < m) (hN : m ≤ 1048576) (hlen : (Lib.join xs sep).length ≤ 140737488355328) (hH : Hp B H0 H L w) :
    Calls Tryd.prog 41 [.slice q m c, sV sep].toArray w fun e w' => e = .returned (sV (Lib.join xs sep)) ∧ Hp B H0 H L w' := by
  subst hxm
  obtain ⟨hA, hfp⟩ := hH.objs _ hm
  obtain ⟨h1, h2⟩ := hA
  have hc := own_reads (hH.objs _ hm).1
  rcases h2 with ⟨_, h2, _⟩ | ⟨g, cur, rfl, hg, h3, h4, h5, h6⟩
  · omega
  have hml : ((xs.map fun l => (⟨l.toArray⟩ : ByteArray)).map fun b => b.data.toList) = xs := by
    rw [List.map_map]
    exact (List.map_congr_left (g := id) fun l _ => rfl).trans (List.map_id xs)
  have hb := (hfp g ⟨⟨g, 0, none⟩, rfl, rfl⟩).2.1
  have key := Tryd.strings_Join g 0 c (xs.map fun l => (⟨l.toArray⟩ : ByteArray)) ⟨sep.toArray⟩ w (fun j x hj => by
      rw [List.getElem?_map] at hj
      cases hx : xs[j]? with
      | none => rw [hx] at hj; simp at hj
      | some l =>
        rw [hx] at hj
        simp only [Option.map_some, Option.some.injEq] at hj
        subst hj
        have h9 := hc j (sV l) (by rw [List.getElem?_map, hx]; rfl)
        have h10 : w.cell? ((⟨g, 0, none⟩ : Addr).add j) = some (sV l) := h9
        rw [add_at] at h10
        simpa using h10) hb (by simp only [List.length_map]; omega) (by simpa using h3) (by rw [hml]; exact hlen)
  rw [List.length_map, hml] at key
  exact key.mono fun e w' ⟨h7, h8⟩ => ⟨h7, hH.belowOf h8⟩
set_option maxRecDepth 10000 in
theorem decimal_c {B : World} {H0 H : HP} {L : List SA} {w : World} {x : Int}  (hx : 0 ≤ x ∧ x ≤ 9223372036854775807) (hT : TabOk Tryd.prog nmT H) (hH : Hp B H0 H L w) :
    Calls Tryd.prog 39 [.int .i64 x].toArray w fun e w' => e = .returned (sV (decL x)) ∧ Hp B H0 H L w' := by
  refine CJ.enter Tryd.func39 rfl 5 rfl rfl [(0, .int .i64 x)] rfl hH ?_
  clear hH
  refine CJ.seq fun _ hK1 _ => ?_
  refine CJ.region ?_
  refine J.p (PR.assign rfl) rfl ?_
  refine J.nil ?_
  refine EJ.thenN (hK1 ?_)
  refine CJ.seq fun _ hK2 _ => ?_
  refine CJ.region ?_
  refine J.p (PR.move rfl) rfl ?_
  refine J.call fn60 rfl rfl fun w1 hH => (Tryd.strconv_FormatInt_10 x (by omega) (by omega) w1 (hT w1 hH.agree)).mono ?_
  rintro _ w ⟨rfl, k, os, hw⟩
  replace hH := hH.belowOf (w' := w) (by rw [hw]; exact Lib.below_grow _ _ (Nat.le_refl _) _ _)
  rw [decL_itoa hx.1]
  refine ⟨_, rfl, fun a hF => J.of hF hH ?_⟩
  refine J.p (PR.assign rfl) rfl ?_
  refine J.nil ?_
  refine EJ.thenN (hK2 ?_)
  refine CJ.ret ?_
  refine EJ.ret1 rfl (Res.tmp rfl) fun w hH => ?_
  exact ⟨rfl, hH⟩
set_option maxHeartbeats 2000000 in
set_option maxRecDepth 10000 in
theorem monomialText_c {B : World} {H0 H : HP} {L : List SA} {w : World} {m : List Int}  (hm : Mono m) (hT : TabOk Tryd.prog nmT H) (hH : Hp B H0 H L w) :
    Calls Tryd.prog 40 [.agg (bytesC m).toArray].toArray w fun e w' => e = .returned (sV (nameT m)) ∧ Hp B H0 H L w' := by
  refine CJ.enter Tryd.func40 rfl 30 rfl rfl [(0, .agg (bytesC m).toArray)] rfl hH ?_
  have hml := hm.len
  clear hH
  have hmb := hm.bd
  have hml9 := fun k => monT_len hmb k
  refine CJ.seq fun _ hK1 _ => ?_
  refine CJ.region ?_
  refine J.box rfl rfl rfl fun g1 => ?_
  refine J.p (PR.assign rfl) rfl ?_
  refine J.nil ?_
  refine EJ.thenN (hK1 ?_)
  refine CJ.seq fun _ hK2 _ => ?_
  refine CJ.region ?_
  refine J.p (PR.assign rfl) rfl ?_
  refine J.nil ?_
  refine EJ.thenN (hK2 ?_)
  refine CJ.seq fun _ hK3 _ => ?_
  refine CJ.seq fun _ hK4 _ => ?_
  refine CJ.region ?_
  refine J.p (PR.loadAll rfl At.z (by simpa [*] using ag64)) rfl ?_
  refine J.p (PR.move rfl) rfl ?_
  refine J.nil ?_
  refine EJ.thenN (hK4 ?_)
  refine CJ.block ?_
  refine CJ.loopU (σ := Nat) (fun (i : Nat) => [(7, .int .i64 (i : Int)), (3, sV (monT m i))]) (fun (i : Nat) => H) (fun (i : Nat) => obj g1 (.cells (bytesC m).toArray 64 (0, 0)) :: L) (fun (i : Nat) => i ≤ 8) (fun (i : Nat) => 8 - i) 0 (by omega) ⟨rfl, ⟨rfl, trivial⟩⟩ rfl rfl ?_
  rintro i hi _ hAg0
  have hli := hml9 i
  have hmi := hmb i
  have hdl := decL_len (n := m.getD i 0) hmi.1 (by omega)
  refine CJ.seq fun _ hK5 _ => ?_
  refine CJ.region ?_
  refine J.p (PR.lss rfl rfl) rfl ?_
  refine J.nil ?_
  refine EJ.thenN (hK5 ?_)
  refine CJ.seq fun _ hK6 _ => ?_
  refine CJ.condD rfl (fun hc8 => ?_) (fun hc8 => ?_)
  ·
    refine CJ.skip ?_
    refine EJ.thenN (hK6 ?_)
    refine CJ.seq fun _ hK7 _ => ?_
    refine CJ.block ?_
    refine CJ.seq fun _ hK8 _ => ?_
    refine CJ.region ?_
    refine J.p (PR.move rfl) rfl ?_
    refine J.p (PR.index u64 sz5 pl5 rfl rfl rfl (by omega) (by first | exact bytesC_get (by simp [*]; omega) | exact intsC_get (by simp [*]; omega))) rfl ?_
    refine J.p (PR.assign rfl) rfl ?_
    refine J.p (PR.assign rfl) rfl ?_
    refine J.nil ?_
    refine EJ.thenN (hK8 ?_)
    refine CJ.seq fun _ hK9 _ => ?_
    refine CJ.seq fun _ hK10 _ => ?_
    refine CJ.region ?_
    refine J.p (PR.move rfl) rfl ?_
    refine J.p (PR.gtr rfl rfl) rfl ?_
    refine J.nil ?_
    refine EJ.thenN (hK10 ?_)
    refine CJ.condD rfl (fun h12 => ?_) (fun h12 => ?_)
    ·
      refine CJ.region ?_
      refine J.p (PR.move rfl) rfl ?_
      refine J.p (PR.move rfl) rfl ?_
      refine J.p (PR.add rfl rfl (by first | exact nw _ (by omega) | rfl)) rfl ?_
      refine J.p (PR.conv u3 u21 rfl (si32_id (by omega))) rfl ?_
      refine J.p (PR.strRune u21 u9 rfl (by omega)) rfl ?_
      refine J.p (PR.strAdd rfl rfl (by first | omega | (simp only [List.length_append, List.length_singleton]; omega))) rfl ?_
      refine J.p (PR.assign rfl) rfl ?_
      refine J.nil ?_
      refine EJ.thenN (hK9 ?_)
      refine CJ.seq fun _ hK11 _ => ?_
      refine CJ.region ?_
      refine J.p (PR.move rfl) rfl ?_
      refine J.p (PR.gtr rfl rfl) rfl ?_
      refine J.nil ?_
      refine EJ.thenN (hK11 ?_)
      refine CJ.condD rfl (fun h20 => ?_) (fun h20 => ?_)
      ·
        refine CJ.region ?_
        refine J.p (PR.move rfl) rfl ?_
        refine J.p (PR.move rfl) rfl ?_
        refine J.p (PR.conv u5 u2 rfl (by first | exact nw _ (by omega) | rfl)) rfl ?_
        refine J.call fn39 rfl rfl fun w hH => (decimal_c (by omega) hT hH).mono ?_
        rintro _ w ⟨rfl, hH⟩
        refine ⟨_, rfl, fun a hF => J.of hF hH ?_⟩
        refine J.p (PR.strAdd rfl rfl (by first | omega | (simp only [List.length_append, List.length_singleton]; omega))) rfl ?_
        refine J.p (PR.assign rfl) rfl ?_
        refine J.nil ?_
        refine EJ.inN ?_
        refine EJ.thenN (hK7 ?_)
        refine CJ.region ?_
        refine J.p (PR.add rfl rfl (by first | exact nw _ (by omega) | rfl)) rfl ?_
        refine J.p (PR.move rfl) rfl ?_
        refine J.nil ?_
        refine EJ.thenN ?_
        exact hAg0 (i + 1) (by omega) (by omega) 26 rfl rfl ⟨rfl, ⟨(vS (monT_yy h12 h20)), trivial⟩⟩ rfl rfl
      ·
        refine CJ.skip ?_
        refine EJ.inN ?_
        refine EJ.thenN (hK7 ?_)
        refine CJ.region ?_
        refine J.p (PR.add rfl rfl (by first | exact nw _ (by omega) | rfl)) rfl ?_
        refine J.p (PR.move rfl) rfl ?_
        refine J.nil ?_
        refine EJ.thenN ?_
        exact hAg0 (i + 1) (by omega) (by omega) 20 rfl rfl ⟨rfl, ⟨(vS (monT_yn h12 h20)), trivial⟩⟩ rfl rfl
    ·
      refine CJ.skip ?_
      refine EJ.thenN (hK9 ?_)
      refine CJ.seq fun _ hK12 _ => ?_
      refine CJ.region ?_
      refine J.p (PR.move rfl) rfl ?_
      refine J.p (PR.gtr rfl rfl) rfl ?_
      refine J.nil ?_
      refine EJ.thenN (hK12 ?_)
      refine CJ.condD rfl (fun h20 => ?_) (fun h20 => ?_)
      ·
        refine CJ.region ?_
        refine J.p (PR.move rfl) rfl ?_
        refine J.p (PR.move rfl) rfl ?_
        refine J.p (PR.conv u5 u2 rfl (by first | exact nw _ (by omega) | rfl)) rfl ?_
        refine J.call fn39 rfl rfl fun w hH => (decimal_c (by omega) hT hH).mono ?_
        rintro _ w ⟨rfl, hH⟩
        refine ⟨_, rfl, fun a hF => J.of hF hH ?_⟩
        refine J.p (PR.strAdd rfl rfl (by first | omega | (simp only [List.length_append, List.length_singleton]; omega))) rfl ?_
        refine J.p (PR.assign rfl) rfl ?_
        refine J.nil ?_
        refine EJ.inN ?_
        refine EJ.thenN (hK7 ?_)
        refine CJ.region ?_
        refine J.p (PR.add rfl rfl (by first | exact nw _ (by omega) | rfl)) rfl ?_
        refine J.p (PR.move rfl) rfl ?_
        refine J.nil ?_
        refine EJ.thenN ?_
        exact hAg0 (i + 1) (by omega) (by omega) 19 rfl rfl ⟨rfl, ⟨(by exfalso; omega), trivial⟩⟩ rfl rfl
      ·
        refine CJ.skip ?_
        refine EJ.inN ?_
        refine EJ.thenN (hK7 ?_)
        refine CJ.region ?_
        refine J.p (PR.add rfl rfl (by first | exact nw _ (by omega) | rfl)) rfl ?_
        refine J.p (PR.move rfl) rfl ?_
        refine J.nil ?_
        refine EJ.thenN ?_
        exact hAg0 (i + 1) (by omega) (by omega) 13 rfl rfl ⟨rfl, ⟨(vS (monT_nn h12)), trivial⟩⟩ rfl rfl
  ·
    refine CJ.exit ?_
    refine EJ.thenE ?_
    refine EJ.thenE ?_
    refine EJ.inE ?_
    refine EJ.thenN (hK3 ?_)
    refine CJ.seq fun _ hK13 _ => ?_
    refine CJ.seq fun _ hK14 _ => ?_
    refine CJ.region ?_
    refine J.p (PR.move rfl) rfl ?_
    refine J.p (PR.strEql rfl rfl) rfl ?_
    refine J.nil ?_
    refine EJ.thenN (hK14 ?_)
    refine CJ.condD rfl (fun h28 => ?_) (fun h28 => ?_)
    ·
      refine CJ.seq fun _ hK15 _ => ?_
      refine CJ.region ?_
      refine J.p (PR.assign rfl) rfl ?_
      refine J.nil ?_
      refine EJ.thenN (hK15 ?_)
      refine CJ.ret ?_
      refine EJ.thenR ?_
      refine EJ.ret1 rfl (Res.tmp rfl) fun w hH => ?_
      replace hH := hH.tail
      obtain rfl : i = 8 := by omega
      exact ⟨by unfold nameT; rw [if_pos h28], hH⟩
    ·
      refine CJ.skip ?_
      refine EJ.thenN (hK13 ?_)
      refine CJ.seq fun _ hK16 _ => ?_
      refine CJ.region ?_
      refine J.p (PR.move rfl) rfl ?_
      refine J.p (PR.assign rfl) rfl ?_
      refine J.nil ?_
      refine EJ.thenN (hK16 ?_)
      refine CJ.ret ?_
      refine EJ.ret1 rfl (Res.tmp rfl) fun w hH => ?_
      replace hH := hH.tail
      obtain rfl : i = 8 := by omega
      exact ⟨by unfold nameT; rw [if_neg h28], hH⟩
end Go.Proofs.YtbjhllmcnfncdaaDoor.G
namespace Go.Proofs.YtbjhllmcnfncdaaDoor.G
open Go Go.RowKit
namespace Sd
theorem u2 : Tryd.prog.underlying 2 = some (TypeDesc.int .i64) := by kernel_rfl
theorem u30 : Tryd.prog.underlying 30 = some (TypeDesc.slice 66) := by kernel_rfl
theorem u32 : Tryd.prog.underlying 32 = some (TypeDesc.struct #[{ name := "Terms", type := 30, offset := 0, embedded := false, tag := "", pkgPath := "", byteOffset := 0 }]) := by kernel_rfl
theorem u64 : Tryd.prog.underlying 64 = some (TypeDesc.array 8 5) := by kernel_rfl
theorem u66 : Tryd.prog.underlying 66 = some (TypeDesc.struct #[{ name := "Monomial", type := 64, offset := 0, embedded := false, tag := "", pkgPath := "", byteOffset := 0 }, { name := "Factor", type := 2, offset := 8, embedded := false, tag := "", pkgPath := "", byteOffset := 8 }]) := by kernel_rfl
theorem u71 : Tryd.prog.underlying 71 = some (TypeDesc.slice 9) := by kernel_rfl
theorem sz2 : Size Tryd.prog 2 1 := by unfold Size; kernel_rfl
theorem sz30 : Size Tryd.prog 30 1 := by unfold Size; kernel_rfl
theorem sz64 : Size Tryd.prog 64 8 := by unfold Size; kernel_rfl
theorem sz66 : Size Tryd.prog 66 9 := by unfold Size; kernel_rfl
theorem sz9 : Size Tryd.prog 9 1 := by unfold Size; kernel_rfl
theorem by9 : Bytes Tryd.prog 9 16 := by unfold Bytes; kernel_rfl
theorem ze66 : Zero Tryd.prog 66 [.int .u8 0, .int .u8 0, .int .u8 0, .int .u8 0, .int .u8 0, .int .u8 0, .int .u8 0, .int .u8 0, .int .i64 0] := by unfold Zero; kernel_rfl
theorem ze9 : Zero Tryd.prog 9 [.string ⟨#[]⟩] := by unfold Zero; kernel_rfl
theorem pl2 : Plain Tryd.prog 2 := ⟨_, u2, rfl⟩
theorem pl30 : Plain Tryd.prog 30 := ⟨_, u30, rfl⟩
theorem ag32 : Agg Tryd.prog 32 1 := ⟨_, u32, rfl, by kernel_rfl⟩
theorem ag64 : Agg Tryd.prog 64 8 := ⟨_, u64, rfl, by kernel_rfl⟩
theorem ag66 : Agg Tryd.prog 66 9 := ⟨_, u66, rfl, by kernel_rfl⟩
theorem fn22 : Fn Tryd.prog 22 := ⟨_, Tryd.func22, by kernel_rfl, rfl⟩
theorem fn39 : Fn Tryd.prog 39 := ⟨_, Tryd.func39, by kernel_rfl, rfl⟩
theorem fn40 : Fn Tryd.prog 40 := ⟨_, Tryd.func40, by kernel_rfl, rfl⟩
theorem fn41 : Fn Tryd.prog 41 := ⟨_, Tryd.func41, by kernel_rfl, rfl⟩
theorem foll0 : Tryd.prog.follows .mixedOrders = true := by kernel_rfl
end Sd
open Sd
set_option maxHeartbeats 4000000 in
set_option maxRecDepth 10000 in
theorem formText_c {B : World} {H0 H : HP} {L : List SA} {w : World} {qts : Option Addr} {cts : Nat} {ts : List Term}  (hts : Terms H qts ts) (hl : ts.length ≤ 400) (hf : ∀ i, i < ts.length → 0 ≤ (tm ts i).fac) (hT : TabOk Tryd.prog nmT H) (hH : Hp B H0 H L w) :
    Calls Tryd.prog 22 [.agg [.slice qts ts.length cts].toArray].toArray w fun e w' => e = .returned (sV (textT ts)) ∧ Hp B H0 H L w' := by
  refine CJ.enter Tryd.func22 rfl 31 rfl rfl [(0, .agg [.slice qts ts.length cts].toArray)] rfl hH ?_
  clear hH
  have hp9 := fun k (h : k ≤ ts.length) => preT_len hts.wfs hf h
  refine CJ.seq fun _ hK1 _ => ?_
  refine CJ.region ?_
  refine J.box rfl rfl rfl fun g1 => ?_
  refine J.p (PR.assign rfl) rfl ?_
  refine J.nil ?_
  refine EJ.thenN (hK1 ?_)
  refine CJ.seq fun _ hK2 _ => ?_
  refine CJ.region ?_
  refine J.mk (MK.lit0 u71 sz9) rfl fun qo6 co6 => ?_
  refine J.p (PR.assign rfl) rfl ?_
  refine J.nil ?_
  refine EJ.thenN (hK2 ?_)
  refine CJ.seq fun _ hK3 _ => ?_
  refine CJ.seq fun _ hK4 _ => ?_
  refine CJ.region ?_
  refine J.p (PR.fldA u32 rfl sz30 rfl) rfl ?_
  refine J.p (PR.load rfl (.s .z) rfl pl30) rfl ?_
  refine J.p (PR.lenSlice u30 rfl rfl) rfl ?_
  refine J.p (PR.move rfl) rfl ?_
  refine J.nil ?_
  refine EJ.thenN (hK4 ?_)
  refine CJ.block ?_
  refine CJ.loopU (σ := Option Addr × Nat × Nat) (fun ⟨q, c, k⟩ => [(10, .int .i64 (k : Int)), (3, .slice q k c)]) (fun ⟨q, c, k⟩ => H) (fun ⟨q, c, k⟩ => own 9 1 q k c (((ts.take k).map termT).map sV) :: obj g1 (.cells [.slice qts ts.length cts].toArray 32 (0, 0)) :: L) (fun ⟨q, c, k⟩ => k ≤ ts.length) (fun ⟨q, c, k⟩ => ts.length - k) (qo6, co6, 0) (by show 0 ≤ ts.length; omega) ⟨rfl, ⟨rfl, trivial⟩⟩ rfl rfl ?_
  rintro ⟨q, c, k⟩ hk _ hAg0
  refine CJ.seq fun _ hK5 _ => ?_
  refine CJ.region ?_
  refine J.p (PR.lss rfl rfl) rfl ?_
  refine J.nil ?_
  refine EJ.thenN (hK5 ?_)
  refine CJ.seq fun _ hK6 _ => ?_
  refine CJ.condD rfl (fun h11 => ?_) (fun h11 => ?_)
  ·
    have hil : k < ts.length := by omega
    have hfi := hf k hil
    have hmw := (hts.wf k hil)
    have hfu := hmw.fac.2
    have hdl := decL_len hfi hmw.fac.2
    have hnl := nameT_len hmw.mono.bd
    refine CJ.skip ?_
    refine EJ.thenN (hK6 ?_)
    refine CJ.seq fun _ hK7 _ => ?_
    refine CJ.block ?_
    refine CJ.seq fun _ hK8 _ => ?_
    refine CJ.region ?_
    refine J.p (PR.idx u30 sz66 rfl rfl rfl (by omega) hts.sm) rfl ?_
    refine J.p (PR.loadHagg rfl (hts.cell _ (by omega)) (hts.sm (i := k) (by omega)) (by rw [Term.c_length (hts.wf _ (by omega))]; exact ag66)) rfl ?_
    refine J.alloc (cs := (default : Term).c) ze66 rfl fun g5 => ?_
    refine J.stTerm rfl rfl sz66 zero_wf (hts.wf k (by omega)) At.z ?_
    refine J.nil ?_
    refine EJ.thenN (hK8 ?_)
    refine CJ.openR (Rs := [_, _, _]) 12 [[], [], [1], [1, 2], [1, 2, 3], [], [5], [1, 2, 3, 5, 6], [1, 2, 3, 4, 5, 6, 7], [1, 2, 3, 4, 5, 6, 7, 8], [0, 1, 2, 3, 4, 5, 6, 7, 8, 9], [0, 1, 2, 3, 4, 5, 6, 7, 8, 9, 10]] [[], [], [12], [], [], [], [12], [], [], [], [9], []] [[], [], [], [], [], [], [], [], [], [], [13], []] rfl rfl (by kernel_rfl) ?_
    apply GJ.st0 1 rfl
    iterate 3 focus (intros; (conv => lhs; simp only [slotsZ, zlAt, vs0, resL, at2, eq_self, Nat.reduceEqDiff, reduceIte, Nat.reduceSub, Nat.reduceAdd, List.cons_append, List.nil_append]); all_goals rfl)
    ·
      intro gh X K zq zc zq2 zc2 zb zv hK
      refine J.p (PR.move rfl) rfl ?_
      refine J.nilK ?_
      exact hK zq zc zq2 zc2 zb zv
    ·
      intro gh gh' h
      rfl
    apply GJ.st0 2 rfl
    iterate 3 focus (intros; (conv => lhs; simp only [slotsZ, zlAt, vs0, resL, at2, eq_self, Nat.reduceEqDiff, reduceIte, Nat.reduceSub, Nat.reduceAdd, List.cons_append, List.nil_append]); all_goals rfl)
    ·
      intro gh X K zq zc zq2 zc2 zb zv hK
      refine J.p (PR.fldA u66 rfl sz2 rfl) rfl ?_
      refine J.nilK ?_
      exact hK zq zc zq2 zc2 zb zv
    ·
      intro gh gh' h
      rfl
    apply GJ.st0 3 rfl
    iterate 3 focus (intros; (conv => lhs; simp only [slotsZ, zlAt, vs0, resL, at2, eq_self, Nat.reduceEqDiff, reduceIte, Nat.reduceSub, Nat.reduceAdd, List.cons_append, List.nil_append]); all_goals rfl)
    ·
      intro gh X K zq zc zq2 zc2 zb zv hK
      refine J.p (PR.ldFac rfl At.z (hts.wf k (by omega)) pl2) rfl ?_
      refine J.nilK ?_
      exact hK zq zc zq2 zc2 zb zv
    ·
      intro gh gh' h
      rfl
    apply GJ.st0 4 rfl
    iterate 3 focus (intros; (conv => lhs; simp only [slotsZ, zlAt, vs0, resL, at2, eq_self, Nat.reduceEqDiff, reduceIte, Nat.reduceSub, Nat.reduceAdd, List.cons_append, List.nil_append]); all_goals rfl)
    ·
      intro gh X K zq zc zq2 zc2 zb zv hK
      refine J.call fn39 rfl rfl fun w hH => (decimal_c (by omega) hT hH).mono ?_
      rintro _ w ⟨rfl, hH⟩
      refine ⟨_, rfl, fun a hF => J.of hF hH ?_⟩
      refine J.nilK ?_
      exact hK zq zc zq2 zc2 zb zv
    ·
      intro gh gh' h
      rfl
    apply GJ.st0 5 rfl
    iterate 3 focus (intros; (conv => lhs; simp only [slotsZ, zlAt, vs0, resL, at2, eq_self, Nat.reduceEqDiff, reduceIte, Nat.reduceSub, Nat.reduceAdd, List.cons_append, List.nil_append]); all_goals rfl)
    ·
      intro gh X K zq zc zq2 zc2 zb zv hK
      refine J.p (PR.strAdd rfl rfl (by first | omega | (simp only [List.length_append, List.length_singleton]; omega))) rfl ?_
      refine J.nilK ?_
      exact hK zq zc zq2 zc2 zb zv
    ·
      intro gh gh' h
      rfl
    apply GJ.st0 6 rfl
    iterate 3 focus (intros; (conv => lhs; simp only [slotsZ, zlAt, vs0, resL, at2, eq_self, Nat.reduceEqDiff, reduceIte, Nat.reduceSub, Nat.reduceAdd, List.cons_append, List.nil_append]); all_goals rfl)
    ·
      intro gh X K zq zc zq2 zc2 zb zv hK
      refine J.p (PR.fldA u66 rfl sz64 rfl) rfl ?_
      refine J.nilK ?_
      exact hK zq zc zq2 zc2 zb zv
    ·
      intro gh gh' h
      rfl
    apply GJ.st0 7 rfl
    iterate 3 focus (intros; (conv => lhs; simp only [slotsZ, zlAt, vs0, resL, at2, eq_self, Nat.reduceEqDiff, reduceIte, Nat.reduceSub, Nat.reduceAdd, List.cons_append, List.nil_append]); all_goals rfl)
    ·
      intro gh X K zq zc zq2 zc2 zb zv hK
      refine J.p (PR.ldMono rfl At.z (hts.wf k (by omega)) ag64) rfl ?_
      refine J.nilK ?_
      exact hK zq zc zq2 zc2 zb zv
    ·
      intro gh gh' h
      rfl
    apply GJ.st0 8 rfl
    iterate 3 focus (intros; (conv => lhs; simp only [slotsZ, zlAt, vs0, resL, at2, eq_self, Nat.reduceEqDiff, reduceIte, Nat.reduceSub, Nat.reduceAdd, List.cons_append, List.nil_append]); all_goals rfl)
    ·
      intro gh X K zq zc zq2 zc2 zb zv hK
      refine J.call fn40 rfl rfl fun w hH => (monomialText_c (hts.wf k (by omega)).mono hT hH).mono ?_
      rintro _ w ⟨rfl, hH⟩
      refine ⟨_, rfl, fun a hF => J.of hF hH ?_⟩
      refine J.nilK ?_
      exact hK zq zc zq2 zc2 zb zv
    ·
      intro gh gh' h
      rfl
    apply GJ.st0 9 rfl
    iterate 3 focus (intros; (conv => lhs; simp only [slotsZ, zlAt, vs0, resL, at2, eq_self, Nat.reduceEqDiff, reduceIte, Nat.reduceSub, Nat.reduceAdd, List.cons_append, List.nil_append]); all_goals rfl)
    ·
      intro gh X K zq zc zq2 zc2 zb zv hK
      refine J.p (PR.strAdd rfl rfl (by first | omega | (simp only [List.length_append, List.length_singleton]; omega))) rfl ?_
      refine J.nilK ?_
      exact hK zq zc zq2 zc2 zb zv
    ·
      intro gh gh' h
      rfl
    apply GJ.st1 10 rfl
    iterate 3 focus (intros; (conv => lhs; simp only [slotsZ, zlAt, vs0, resL, at2, eq_self, Nat.reduceEqDiff, reduceIte, Nat.reduceSub, Nat.reduceAdd, List.cons_append, List.nil_append]); all_goals rfl)
    ·
      intro gh X K zq zc zq2 zc2 zb zv hK
      refine J.mk (MK.lit1S u71 ze9 sz9 rfl rfl) rfl fun qo23 co23 => ?_
      refine J.nilK ?_
      exact hK qo23 co23 zq2 zc2 zb zv
    ·
      intro gh gh' h
      refine ⟨?_, ?_⟩ <;> rfl
    apply GJ.st1 11 rfl
    iterate 3 focus (intros; (conv => lhs; simp only [slotsZ, zlAt, vs0, resL, at2, eq_self, Nat.reduceEqDiff, reduceIte, Nat.reduceSub, Nat.reduceAdd, List.cons_append, List.nil_append]); all_goals rfl)
    ·
      intro gh X K zq zc zq2 zc2 zb zv hK
      refine J.append1 u71 ze9 sz9 by9 rfl rfl rfl rfl (by omega) (.s .z) At.z (fun _ _ => At.z) rfl fun qo24 co24 => ?_
      refine EJ.front .z ?_
      refine EJ.front (.s .z) ?_
      refine J.nilK ?_
      exact hK qo24 co24 zq2 zc2 zb zv
    ·
      intro gh gh' h
      refine ⟨?_, ?_⟩ <;> (first | simp only [h 9 rfl] | rfl)
    apply GJ.st0 12 rfl
    iterate 3 focus (intros; (conv => lhs; simp only [slotsZ, zlAt, vs0, resL, at2, eq_self, Nat.reduceEqDiff, reduceIte, Nat.reduceSub, Nat.reduceAdd, List.cons_append, List.nil_append]); all_goals rfl)
    ·
      intro gh X K zq zc zq2 zc2 zb zv hK
      refine J.p (PR.assign rfl) rfl ?_
      refine J.nilK ?_
      exact hK zq zc zq2 zc2 zb zv
    ·
      intro gh gh' h
      first | simp only [h 9 rfl, h 10 rfl] | rfl
    apply GJ.close [0, 1, 2, 3, 4, 5, 6, 7, 8, 9, 10, 11] [0, 1, 2, 3, 4, 5, 6, 7, 8, 9, 10, 11, 12, 14] foll0 rfl rfl rfl (by rfl)
    iterate 2 focus (intros; (conv => lhs; simp only [slotsZ, zlAt, vs0, resL, at2, eq_self, Nat.reduceEqDiff, reduceIte, Nat.reduceSub, Nat.reduceAdd, List.cons_append, List.nil_append]); all_goals rfl)
    intro gh
    generalize (gh 9).c = co23
    generalize (gh 9).q = qo23
    generalize (gh 10).c = co24
    generalize (gh 10).q = qo24
    clear gh
    refine EJ.inN ?_
    refine EJ.thenN (hK7 ?_)
    refine CJ.region ?_
    refine J.p (PR.add rfl rfl (by first | exact nw _ (by omega) | rfl)) rfl ?_
    refine J.p (PR.move rfl) rfl ?_
    refine J.nil ?_
    refine EJ.thenN ?_
    refine EJ.drop .z ?_
    refine EJ.drop (.s .z) ?_
    exact hAg0 (qo24, co24, k + 1) (by show k + 1 ≤ ts.length; omega) (by show ts.length - (k + 1) < ts.length - k; omega) 20 rfl rfl ⟨rfl, ⟨rfl, trivial⟩⟩ rfl (by dsimp only; rw [stm_take (by omega), List.map_append, List.map_append]; rfl)
  ·
    refine CJ.exit ?_
    refine EJ.thenE ?_
    refine EJ.thenE ?_
    refine EJ.inE ?_
    refine EJ.thenN (hK3 ?_)
    refine CJ.seq fun _ hK9 _ => ?_
    refine CJ.seq fun _ hK10 _ => ?_
    refine CJ.region ?_
    refine J.p (PR.move rfl) rfl ?_
    refine J.p (PR.lenSlice u71 rfl rfl) rfl ?_
    refine J.p (PR.eql rfl rfl) rfl ?_
    refine J.nil ?_
    refine EJ.thenN (hK10 ?_)
    refine CJ.condD rfl (fun h28 => ?_) (fun h28 => ?_)
    ·
      refine CJ.seq fun _ hK11 _ => ?_
      refine CJ.region ?_
      refine J.p (PR.assign rfl) rfl ?_
      refine J.nil ?_
      refine EJ.thenN (hK11 ?_)
      refine CJ.ret ?_
      refine EJ.thenR ?_
      refine EJ.ret1 rfl (Res.tmp rfl) fun w hH => ?_
      replace hH := hH.tail
      replace hH := hH.tail
      exact ⟨by unfold textT; rw [if_pos (by omega)], hH⟩
    ·
      refine CJ.skip ?_
      refine EJ.thenN (hK9 ?_)
      refine CJ.seq fun _ hK12 _ => ?_
      refine CJ.region ?_
      refine J.p (PR.move rfl) rfl ?_
      have hp0 := hp9 k (by omega)
      have hjl : (Lib.join ((ts.take k).map termT) [43]).length ≤ 140737488355328 := by rw [← preT_join (by omega)]; omega
      refine J.call fn41 rfl rfl fun w hH => (joinS_c (xs := (ts.take k).map termT) (sep := [43]) (by rw [List.length_map, List.length_take_of_le (by omega)]) List.mem_cons_self (by omega) (by omega) hjl hH).mono ?_
      rintro _ w ⟨rfl, hH⟩
      refine ⟨_, rfl, fun a hF => J.of hF hH ?_⟩
      refine J.p (PR.assign rfl) rfl ?_
      refine J.nil ?_
      refine EJ.thenN (hK12 ?_)
      refine CJ.ret ?_
      refine EJ.ret1 rfl (Res.tmp rfl) fun w hH => ?_
      replace hH := hH.tail
      replace hH := hH.tail
      obtain rfl : k = ts.length := by omega
      exact ⟨by rw [← preT_end ts (by omega), preT_join (Nat.le_refl _)], hH⟩
end Go.Proofs.YtbjhllmcnfncdaaDoor.G
namespace Go.Proofs.YtbjhllmcnfncdaaDoor.G
open Go Go.RowKit
namespace Se
theorem u2 : Tryd.prog.underlying 2 = some (TypeDesc.int .i64) := by kernel_rfl
theorem u22 : Tryd.prog.underlying 22 = some (TypeDesc.slice 2) := by kernel_rfl
theorem u32 : Tryd.prog.underlying 32 = some (TypeDesc.struct #[{ name := "Terms", type := 30, offset := 0, embedded := false, tag := "", pkgPath := "", byteOffset := 0 }]) := by kernel_rfl
theorem u42 : Tryd.prog.underlying 42 = some (TypeDesc.slice 32) := by kernel_rfl
theorem u44 : Tryd.prog.underlying 44 = some (TypeDesc.struct #[{ name := "Degrees", type := 22, offset := 0, embedded := false, tag := "", pkgPath := "", byteOffset := 0 }, { name := "Images", type := 42, offset := 1, embedded := false, tag := "", pkgPath := "", byteOffset := 24 }]) := by kernel_rfl
theorem sz2 : Size Tryd.prog 2 1 := by unfold Size; kernel_rfl
theorem sz22 : Size Tryd.prog 22 1 := by unfold Size; kernel_rfl
theorem sz32 : Size Tryd.prog 32 1 := by unfold Size; kernel_rfl
theorem sz42 : Size Tryd.prog 42 1 := by unfold Size; kernel_rfl
theorem pl2 : Plain Tryd.prog 2 := ⟨_, u2, rfl⟩
theorem pl22 : Plain Tryd.prog 22 := ⟨_, u22, rfl⟩
theorem pl42 : Plain Tryd.prog 42 := ⟨_, u42, rfl⟩
theorem ag32 : Agg Tryd.prog 32 1 := ⟨_, u32, rfl, by kernel_rfl⟩
theorem ag44 : Agg Tryd.prog 44 2 := ⟨_, u44, rfl, by kernel_rfl⟩
theorem fn19 : Fn Tryd.prog 19 := ⟨_, Tryd.func19, by kernel_rfl, rfl⟩
theorem fn26 : Fn Tryd.prog 26 := ⟨_, Tryd.func26, by kernel_rfl, rfl⟩
theorem fn27 : Fn Tryd.prog 27 := ⟨_, Tryd.func27, by kernel_rfl, rfl⟩
theorem fn34 : Fn Tryd.prog 34 := ⟨_, Tryd.func34, by kernel_rfl, rfl⟩
theorem foll0 : Tryd.prog.follows .mixedOrders = true := by kernel_rfl
end Se
open Se
def genT (ds : List Int) (fs : List (List Term)) (i : Nat) : List UInt8 := (decL (ds.getD i 0) ++ [58]) ++ textT (fm fs i)
def preA (ds : List Int) (fs : List (List Term)) : Nat → List UInt8
  | 0 => []
  | k + 1 => (if 0 < k then preA ds fs k ++ [59] else preA ds fs k) ++ genT ds fs k
def gensT (ds : List Int) (fs : List (List Term)) (k : Nat) : List (List UInt8) := (List.range k).map (genT ds fs)
def algT (ds : List Int) (fs : List (List Term)) : List UInt8 := Lib.join (gensT ds fs ds.length) [59]
theorem gensT_len (ds : List Int) (fs : List (List Term)) (k : Nat) : (gensT ds fs k).length = k := by simp [gensT]
theorem gensT_succ (ds : List Int) (fs : List (List Term)) (k : Nat) : gensT ds fs (k + 1) = gensT ds fs k ++ [genT ds fs k] := by
  unfold gensT
  rw [List.range_succ, List.map_append, List.map_singleton]
theorem preA_join (ds : List Int) (fs : List (List Term)) : ∀ k, preA ds fs k = Lib.join (gensT ds fs k) [59]
  | 0 => by simp [preA, gensT, Lib.join_nil]
  | k + 1 => by
    rw [gensT_succ]
    simp only [preA]
    by_cases hk : 0 < k
    · rw [if_pos hk, join_app _ _ (by intro e; have h9 := congrArg List.length e; rw [gensT_len] at h9; simp only [List.length_nil] at h9; omega), ← preA_join ds fs k]
    · obtain rfl : k = 0 := by omega
      rw [if_neg hk]
      simp [preA, gensT, Lib.join_one]
theorem preA_end (ds : List Int) (fs : List (List Term)) : preA ds fs ds.length = algT ds fs := preA_join ds fs _
structure TxOk (ds : List Int) (fs : List (List Term)) : Prop where
  hn : ds.length ≤ 8
  hl : fs.length = ds.length
  hd : ∀ j, 0 ≤ ds.getD j 0 ∧ ds.getD j 0 ≤ 12
  len : ∀ i, i < fs.length → (fm fs i).length ≤ 400
  fac : ∀ i, i < fs.length → ∀ j, j < (fm fs i).length → 0 ≤ (tm (fm fs i) j).fac
  wf : Wfss fs
theorem AlgOk.tx {ds : List Int} {fs : List (List Term)} (h : AlgOk ds fs) : TxOk ds fs :=
  ⟨h.hn, h.hl, h.hd, fun i hi => isForm_len4 (h.ok i hi), fun i hi j hj => by
    have h1 := (h.fok i hi).1.val _ (toS_at hj)
    simp only at h1
    omega, h.wf⟩
theorem textT_len {ts : List Term} (hw : Wfs ts) (hf : ∀ i, i < ts.length → 0 ≤ (tm ts i).fac) (hl : ts.length ≤ 400) : (textT ts).length ≤ 81000 := by
  by_cases e : ts.length = 0
  · unfold textT
    rw [if_pos e]
    simp
  · rw [← preT_end ts e]
    have := preT_len hw hf (k := ts.length) (by omega)
    omega
theorem genT_len {ds : List Int} {fs : List (List Term)} (h : TxOk ds fs) {i : Nat} (hi : i < fs.length) : (genT ds fs i).length ≤ 81100 := by
  have h1 := textT_len (h.wf.fm i) (h.fac i hi) (h.len i hi)
  have h2 := decL_len (h.hd i).1 (by have := h.hd i; omega)
  unfold genT
  simp only [List.length_append, List.length_singleton]
  omega
theorem preA_len {ds : List Int} {fs : List (List Term)} (h : TxOk ds fs) : ∀ {k : Nat}, k ≤ fs.length → (preA ds fs k).length ≤ 82000 * k
  | 0, _ => by simp [preA]
  | k + 1, hk => by
    have h1 := preA_len h (k := k) (by omega)
    have h2 := genT_len h (i := k) (by omega)
    simp only [preA, List.length_append]
    split
    · simp only [List.length_append, List.length_singleton]; omega
    · omega
theorem preA_p {ds : List Int} {fs : List (List Term)} {k : Nat} (h : 0 < k) : preA ds fs k ++ [59] ++ decL (ds.getD k 0) ++ [58] ++ textT (fm fs k) = preA ds fs (k + 1) := by
  simp only [preA, genT]
  rw [if_pos h]
  simp only [List.append_assoc]
theorem preA_z {ds : List Int} {fs : List (List Term)} {k : Nat} (h : ¬ 0 < k) : preA ds fs k ++ decL (ds.getD k 0) ++ [58] ++ textT (fm fs k) = preA ds fs (k + 1) := by
  simp only [preA, genT]
  rw [if_neg h]
  simp only [List.append_assoc]
def alT (ds : List Int) (fs : List (List Term)) : List UInt8 := if isAlg ds fs then algT ds fs else []
theorem al_yes {ds : List Int} {fs : List (List Term)} (h : isAlg ds fs = true) : alT ds fs = algT ds fs ∧ algC ds fs = 0 := by
  unfold alT algC
  rw [if_pos h, if_pos h]
  exact ⟨rfl, rfl⟩
theorem al_no {ds : List Int} {fs : List (List Term)} (h : isAlg ds fs = false) : alT ds fs = [] ∧ algC ds fs = 1 := by
  unfold alT algC
  rw [h]
  exact ⟨rfl, rfl⟩
set_option maxHeartbeats 4000000 in
set_option maxRecDepth 10000 in
theorem l02Text_c {B : World} {H0 H : HP} {L : List SA} {w : World} {qad qaf : Option Addr} {cad caf : Nat} {ad : List Int} {af : List (List Term)}  (had : Ints H qad ad) (haf : Forms H qaf af) (hA : TxOk ad af) (hH : Hp B H0 H L w) :
    Calls Tryd.prog 27 [.agg [.slice qad ad.length cad, .slice qaf af.length caf].toArray].toArray w fun e w' => e = .returned (sV (algT ad af)) ∧ Hp B H0 H L w' := by
  refine CJ.enter Tryd.func27 rfl 33 rfl rfl [(0, .agg [.slice qad ad.length cad, .slice qaf af.length caf].toArray)] rfl hH ?_
  clear hH
  have hp9 := fun k (h : k ≤ af.length) => preA_len hA h
  have hn8 := hA.hn
  have hl8 := hA.hl
  refine CJ.seq fun _ hK1 _ => ?_
  refine CJ.region ?_
  refine J.box rfl rfl rfl fun g1 => ?_
  refine J.p (PR.assign rfl) rfl ?_
  refine J.nil ?_
  refine EJ.thenN (hK1 ?_)
  refine CJ.seq fun _ hK2 _ => ?_
  refine CJ.region ?_
  refine J.p (PR.assign rfl) rfl ?_
  refine J.nil ?_
  refine EJ.thenN (hK2 ?_)
  refine CJ.seq fun _ hK3 _ => ?_
  refine CJ.seq fun _ hK4 _ => ?_
  refine CJ.region ?_
  refine J.p (PR.assign rfl) rfl ?_
  refine J.nil ?_
  refine EJ.thenN (hK4 ?_)
  refine CJ.block ?_
  refine CJ.loopU (σ := Nat) (fun (i : Nat) => [(4, .int .i64 (i : Int)), (3, sV (preA ad af i))]) (fun (i : Nat) => H) (fun (i : Nat) => obj g1 (.cells [.slice qad ad.length cad, .slice qaf af.length caf].toArray 44 (0, 0)) :: L) (fun (i : Nat) => i ≤ ad.length) (fun (i : Nat) => ad.length - i) 0 (by omega) ⟨rfl, ⟨rfl, trivial⟩⟩ rfl rfl ?_
  rintro i hi _ hAg0
  have hpl := hp9 i (by omega)
  refine CJ.seq fun _ hK5 _ => ?_
  refine CJ.seq fun _ hK6 _ => ?_
  refine CJ.region ?_
  refine J.p (PR.move rfl) rfl ?_
  refine J.p (PR.fldA u44 rfl sz22 rfl) rfl ?_
  refine J.p (PR.load rfl At.z rfl pl22) rfl ?_
  refine J.p (PR.lenSlice u22 rfl rfl) rfl ?_
  refine J.p (PR.lss rfl rfl) rfl ?_
  refine J.nil ?_
  refine EJ.thenN (hK6 ?_)
  refine CJ.condD rfl (fun h9 => ?_) (fun h9 => ?_)
  ·
    have hil : i < af.length := by have := hA.hl; omega
    have hfl := hA.len i hil
    have hff := hA.fac i hil
    have hwi := hA.wf.fm i
    have hgl := textT_len hwi hff hfl
    have hdi := hA.hd i
    have hdl := decL_len hdi.1 (by omega)
    refine CJ.skip ?_
    refine EJ.thenN (hK5 ?_)
    refine CJ.seq fun _ hK7 _ => ?_
    refine CJ.block ?_
    refine CJ.seq fun _ hK8 _ => ?_
    refine CJ.seq fun _ hK9 _ => ?_
    refine CJ.region ?_
    refine J.p (PR.move rfl) rfl ?_
    refine J.p (PR.gtr rfl rfl) rfl ?_
    refine J.nil ?_
    refine EJ.thenN (hK9 ?_)
    refine CJ.condD rfl (fun h13 => ?_) (fun h13 => ?_)
    ·
      refine CJ.region ?_
      refine J.p (PR.move rfl) rfl ?_
      refine J.p (PR.strAdd rfl rfl (by first | omega | (simp only [List.length_append, List.length_singleton]; omega))) rfl ?_
      refine J.p (PR.assign rfl) rfl ?_
      refine J.nil ?_
      refine EJ.thenN (hK8 ?_)
      refine CJ.head [[], [], [1], [], [2, 3], [4], [5], [0, 6], [7], [], [9], [], [10, 11], [12], [13]] (by kernel_rfl) ?_
      refine HJ.op (fun gh => PR.move rfl) ?_
      refine HJ.op (fun gh => PR.fldA u44 rfl sz22 rfl) ?_
      refine HJ.op (fun gh => PR.load rfl At.z rfl pl22) ?_
      refine HJ.op (fun gh => PR.move rfl) ?_
      refine HJ.op (fun gh => PR.idx1 u22 sz2 rfl rfl rfl (by omega) had.sm) ?_
      refine HJ.op (fun gh => PR.loadH rfl (had _ (by omega)) pl2) ?_
      refine HJ.call fn34 (fun gh => rfl) (fun w X hH => l01Dec_c (by omega) hH) ?_
      refine HJ.op (fun gh => PR.strAdd rfl rfl (by first | omega | (simp only [List.length_append, List.length_singleton]; omega))) ?_
      refine HJ.op (fun gh => PR.strAdd rfl rfl (by first | omega | (simp only [List.length_append, List.length_singleton]; omega))) ?_
      refine HJ.op (fun gh => PR.fldA u44 rfl sz42 rfl) ?_
      refine HJ.op (fun gh => PR.load rfl At.z rfl pl42) ?_
      refine HJ.op (fun gh => PR.move rfl) ?_
      refine HJ.op (fun gh => PR.idx1 u42 sz32 rfl rfl rfl (by omega) haf.sm) ?_
      obtain ⟨qe29, ce29, he29, le29, Fe29⟩ := haf i (by omega)
      refine HJ.op (fun gh => PR.loadHagg (cs := [_]) rfl (one_cell he29) (haf.sm (i := i) (by omega)) ag32) ?_
      refine HJ.call fn19 (fun gh => rfl) (fun w X hH => l01Text_c Fe29 hfl hff hH) ?_
      refine HJ.close 15 0 foll0 (by kernel_rfl) rfl rfl fun gh => ?_
      refine J.conv (us' := (16, _) :: (17, _) :: (18, _) :: (19, _) :: (20, _) :: (21, _) :: (22, _) :: (23, _) :: (24, _) :: (25, _) :: (26, _) :: (27, _) :: (28, _) :: (29, _) :: (30, _) :: _) (L' := _) rfl rfl ?_
      refine J.nil ?_
      refine EJ.still ?_
      refine JS.op (PR.strAdd rfl rfl (by first | omega | (simp only [List.length_append, List.length_singleton]; omega))) rfl ?_
      refine JS.op (PR.assign rfl) rfl ?_
      refine JS.nil ?_
      refine EJ.inN ?_
      refine EJ.thenN (hK7 ?_)
      refine CJ.region ?_
      refine J.p (PR.move rfl) rfl ?_
      refine J.p (PR.add rfl rfl (by first | exact nw _ (by omega) | rfl)) rfl ?_
      refine J.p (PR.assign rfl) rfl ?_
      refine J.nil ?_
      refine EJ.thenN ?_
      exact hAg0 (i + 1) (by omega) (by omega) 32 rfl rfl ⟨rfl, ⟨(vS (preA_p (by omega))), trivial⟩⟩ rfl rfl
    ·
      refine CJ.skip ?_
      refine EJ.thenN (hK8 ?_)
      refine CJ.head [[], [], [1], [], [2, 3], [4], [5], [0, 6], [7], [], [9], [], [10, 11], [12], [13]] (by kernel_rfl) ?_
      refine HJ.op (fun gh => PR.move rfl) ?_
      refine HJ.op (fun gh => PR.fldA u44 rfl sz22 rfl) ?_
      refine HJ.op (fun gh => PR.load rfl At.z rfl pl22) ?_
      refine HJ.op (fun gh => PR.move rfl) ?_
      refine HJ.op (fun gh => PR.idx1 u22 sz2 rfl rfl rfl (by omega) had.sm) ?_
      refine HJ.op (fun gh => PR.loadH rfl (had _ (by omega)) pl2) ?_
      refine HJ.call fn34 (fun gh => rfl) (fun w X hH => l01Dec_c (by omega) hH) ?_
      refine HJ.op (fun gh => PR.strAdd rfl rfl (by first | omega | (simp only [List.length_append, List.length_singleton]; omega))) ?_
      refine HJ.op (fun gh => PR.strAdd rfl rfl (by first | omega | (simp only [List.length_append, List.length_singleton]; omega))) ?_
      refine HJ.op (fun gh => PR.fldA u44 rfl sz42 rfl) ?_
      refine HJ.op (fun gh => PR.load rfl At.z rfl pl42) ?_
      refine HJ.op (fun gh => PR.move rfl) ?_
      refine HJ.op (fun gh => PR.idx1 u42 sz32 rfl rfl rfl (by omega) haf.sm) ?_
      obtain ⟨qe29, ce29, he29, le29, Fe29⟩ := haf i (by omega)
      refine HJ.op (fun gh => PR.loadHagg (cs := [_]) rfl (one_cell he29) (haf.sm (i := i) (by omega)) ag32) ?_
      refine HJ.call fn19 (fun gh => rfl) (fun w X hH => l01Text_c Fe29 hfl hff hH) ?_
      refine HJ.close 15 0 foll0 (by kernel_rfl) rfl rfl fun gh => ?_
      refine J.conv (us' := (16, _) :: (17, _) :: (18, _) :: (19, _) :: (20, _) :: (21, _) :: (22, _) :: (23, _) :: (24, _) :: (25, _) :: (26, _) :: (27, _) :: (28, _) :: (29, _) :: (30, _) :: _) (L' := _) rfl rfl ?_
      refine J.nil ?_
      refine EJ.still ?_
      refine JS.op (PR.strAdd rfl rfl (by first | omega | (simp only [List.length_append, List.length_singleton]; omega))) rfl ?_
      refine JS.op (PR.assign rfl) rfl ?_
      refine JS.nil ?_
      refine EJ.inN ?_
      refine EJ.thenN (hK7 ?_)
      refine CJ.region ?_
      refine J.p (PR.move rfl) rfl ?_
      refine J.p (PR.add rfl rfl (by first | exact nw _ (by omega) | rfl)) rfl ?_
      refine J.p (PR.assign rfl) rfl ?_
      refine J.nil ?_
      refine EJ.thenN ?_
      exact hAg0 (i + 1) (by omega) (by omega) 29 rfl rfl ⟨rfl, ⟨(vS (preA_z (by omega))), trivial⟩⟩ rfl rfl
  ·
    refine CJ.exit ?_
    refine EJ.thenE ?_
    refine EJ.thenE ?_
    refine EJ.inE ?_
    refine EJ.thenN (hK3 ?_)
    refine CJ.seq fun _ hK10 _ => ?_
    refine CJ.region ?_
    refine J.p (PR.move rfl) rfl ?_
    refine J.p (PR.assign rfl) rfl ?_
    refine J.nil ?_
    refine EJ.thenN (hK10 ?_)
    refine CJ.ret ?_
    refine EJ.ret1 rfl (Res.tmp rfl) fun w hH => ?_
    replace hH := hH.tail
    obtain rfl : i = ad.length := by omega
    exact ⟨by rw [preA_end], hH⟩
set_option maxRecDepth 10000 in
theorem sAlgebraText_c {B : World} {H0 H : HP} {L : List SA} {w : World} {qad qaf : Option Addr} {cad caf : Nat} {ad : List Int} {af : List (List Term)}  (had : Ints H qad ad) (haf : Forms H qaf af) (hn8 : ad.length ≤ 1048576) (hn9 : af.length ≤ 1048576) (hl9 : ∀ i, i < af.length → (fm af i).length ≤ 1048576) (hH : Hp B H0 H L w) :
    Calls Tryd.prog 13 [.agg [.slice qad ad.length cad, .slice qaf af.length caf].toArray].toArray w fun e w' => e = .returned (.tuple #[sV (alT ad af), .int .i64 (algC ad af)]) ∧ Hp B H0 H L w' := by
  refine CJ.enter Tryd.func13 rfl 9 rfl rfl [(0, .agg [.slice qad ad.length cad, .slice qaf af.length caf].toArray)] rfl hH ?_
  clear hH
  refine CJ.seq fun _ hK1 _ => ?_
  refine CJ.region ?_
  refine J.box rfl rfl rfl fun g1 => ?_
  refine J.p (PR.assign rfl) rfl ?_
  refine J.p (PR.assign rfl) rfl ?_
  refine J.nil ?_
  refine EJ.thenN (hK1 ?_)
  refine CJ.seq fun _ hK2 _ => ?_
  refine CJ.seq fun _ hK3 _ => ?_
  refine CJ.region ?_
  refine J.p (PR.loadAll rfl At.z (by simpa [*] using ag44)) rfl ?_
  refine J.call fn26 rfl rfl fun w hH => (l02Is_c had haf hn8 hn9 hl9 hH).mono ?_
  rintro _ w ⟨rfl, hH⟩
  refine ⟨_, rfl, fun a hF => J.of hF hH ?_⟩
  refine J.p (PR.not rfl) rfl ?_
  refine J.nil ?_
  refine EJ.thenN (hK3 ?_)
  refine CJ.cond rfl (fun h6 => ?_) (fun h6 => ?_)
  ·
    refine CJ.seq fun _ hK4 _ => ?_
    refine CJ.region ?_
    refine J.p (PR.assign rfl) rfl ?_
    refine J.p (PR.assign rfl) rfl ?_
    refine J.nil ?_
    refine EJ.thenN (hK4 ?_)
    refine CJ.ret ?_
    refine EJ.thenR ?_
    refine EJ.ret2 rfl (Res.tmp rfl) (Res.tmp rfl) fun w hH => ?_
    replace hH := hH.tail
    obtain ⟨e1, e2⟩ := al_no (nott h6)
    rw [e1, e2]
    exact ⟨rfl, hH⟩
  ·
    have hA9 : isAlg ad af = true := notf h6
    have hA := (isAlg_ok hA9 haf.wfss).tx
    refine CJ.skip ?_
    refine EJ.thenN (hK2 ?_)
    refine CJ.seq fun _ hK5 _ => ?_
    refine CJ.region ?_
    refine J.p (PR.loadAll rfl At.z (by simpa [*] using ag44)) rfl ?_
    refine J.call fn27 rfl rfl fun w hH => (l02Text_c had haf hA hH).mono ?_
    rintro _ w ⟨rfl, hH⟩
    refine ⟨_, rfl, fun a hF => J.of hF hH ?_⟩
    refine J.p (PR.assign rfl) rfl ?_
    refine J.p (PR.assign rfl) rfl ?_
    refine J.nil ?_
    refine EJ.thenN (hK5 ?_)
    refine CJ.ret ?_
    refine EJ.ret2 rfl (Res.tmp rfl) (Res.tmp rfl) fun w hH => ?_
    replace hH := hH.tail
    obtain ⟨e1, e2⟩ := al_yes hA9
    rw [e1, e2]
    exact ⟨rfl, hH⟩
end Go.Proofs.YtbjhllmcnfncdaaDoor.G
namespace Go.Proofs.YtbjhllmcnfncdaaDoor.G
open Go Go.RowKit
namespace Sf
theorem u2 : Tryd.prog.underlying 2 = some (TypeDesc.int .i64) := by kernel_rfl
theorem u22 : Tryd.prog.underlying 22 = some (TypeDesc.slice 2) := by kernel_rfl
theorem u32 : Tryd.prog.underlying 32 = some (TypeDesc.struct #[{ name := "Terms", type := 30, offset := 0, embedded := false, tag := "", pkgPath := "", byteOffset := 0 }]) := by kernel_rfl
theorem u42 : Tryd.prog.underlying 42 = some (TypeDesc.slice 32) := by kernel_rfl
theorem u44 : Tryd.prog.underlying 44 = some (TypeDesc.struct #[{ name := "Degrees", type := 22, offset := 0, embedded := false, tag := "", pkgPath := "", byteOffset := 0 }, { name := "Images", type := 42, offset := 1, embedded := false, tag := "", pkgPath := "", byteOffset := 24 }]) := by kernel_rfl
theorem u71 : Tryd.prog.underlying 71 = some (TypeDesc.slice 9) := by kernel_rfl
theorem sz2 : Size Tryd.prog 2 1 := by unfold Size; kernel_rfl
theorem sz22 : Size Tryd.prog 22 1 := by unfold Size; kernel_rfl
theorem sz32 : Size Tryd.prog 32 1 := by unfold Size; kernel_rfl
theorem sz42 : Size Tryd.prog 42 1 := by unfold Size; kernel_rfl
theorem sz9 : Size Tryd.prog 9 1 := by unfold Size; kernel_rfl
theorem by9 : Bytes Tryd.prog 9 16 := by unfold Bytes; kernel_rfl
theorem ze9 : Zero Tryd.prog 9 [.string ⟨#[]⟩] := by unfold Zero; kernel_rfl
theorem pl2 : Plain Tryd.prog 2 := ⟨_, u2, rfl⟩
theorem pl22 : Plain Tryd.prog 22 := ⟨_, u22, rfl⟩
theorem pl42 : Plain Tryd.prog 42 := ⟨_, u42, rfl⟩
theorem ag32 : Agg Tryd.prog 32 1 := ⟨_, u32, rfl, by kernel_rfl⟩
theorem ag44 : Agg Tryd.prog 44 2 := ⟨_, u44, rfl, by kernel_rfl⟩
theorem fn22 : Fn Tryd.prog 22 := ⟨_, Tryd.func22, by kernel_rfl, rfl⟩
theorem fn29 : Fn Tryd.prog 29 := ⟨_, Tryd.func29, by kernel_rfl, rfl⟩
theorem fn30 : Fn Tryd.prog 30 := ⟨_, Tryd.func30, by kernel_rfl, rfl⟩
theorem fn39 : Fn Tryd.prog 39 := ⟨_, Tryd.func39, by kernel_rfl, rfl⟩
theorem fn41 : Fn Tryd.prog 41 := ⟨_, Tryd.func41, by kernel_rfl, rfl⟩
theorem foll0 : Tryd.prog.follows .mixedOrders = true := by kernel_rfl
end Sf
open Sf
theorem joinA_c {B : World} {H0 H : HP} {L : List SA} {w : World} {e : TypeId} {q : Option Addr} {c : Nat} {m : Nat} {xs : List (List UInt8)} {sep : List UInt8} (hxm : xs.length = m) (hm : own e 1 q m c (xs.map sV) ∈ L) (hN : m ≤ 1048576) (hlen : (Lib.join xs sep).length ≤ 140737488355328) (hH : Hp B H0 H L w) :
    Calls Tryd.prog 41 [.slice q m c, sV sep].toArray w fun e w' => e = .returned (sV (Lib.join xs sep)) ∧ Hp B H0 H L w' := by
  by_cases h0 : 0 < m
  · exact joinS_c hxm hm h0 hN hlen hH
  · obtain rfl : m = 0 := by omega
    obtain rfl : xs = [] := List.length_eq_zero_iff.1 hxm
    refine (Tryd.strings_Join_none q c ⟨sep.toArray⟩ w).mono ?_
    rintro _ w' ⟨rfl, rfl⟩
    exact ⟨by rw [Lib.join_nil], hH⟩
set_option maxHeartbeats 4000000 in
set_option maxRecDepth 10000 in
theorem algebraText_c {B : World} {H0 H : HP} {L : List SA} {w : World} {qad qaf : Option Addr} {cad caf : Nat} {ad : List Int} {af : List (List Term)}  (had : Ints H qad ad) (haf : Forms H qaf af) (hA : TxOk ad af) (hT : TabOk Tryd.prog nmT H) (hH : Hp B H0 H L w) :
    Calls Tryd.prog 30 [.agg [.slice qad ad.length cad, .slice qaf af.length caf].toArray].toArray w fun e w' => e = .returned (sV (algT ad af)) ∧ Hp B H0 H L w' := by
  refine CJ.enter Tryd.func30 rfl 31 rfl rfl [(0, .agg [.slice qad ad.length cad, .slice qaf af.length caf].toArray)] rfl hH ?_
  clear hH
  have hp9 := fun k (h : k ≤ af.length) => preA_len hA h
  have hn8 := hA.hn
  have hl8 := hA.hl
  refine CJ.seq fun _ hK1 _ => ?_
  refine CJ.region ?_
  refine J.box rfl rfl rfl fun g1 => ?_
  refine J.p (PR.assign rfl) rfl ?_
  refine J.nil ?_
  refine EJ.thenN (hK1 ?_)
  refine CJ.seq fun _ hK2 _ => ?_
  refine CJ.region ?_
  refine J.mk (MK.lit0 u71 sz9) rfl fun qo6 co6 => ?_
  refine J.p (PR.assign rfl) rfl ?_
  refine J.nil ?_
  refine EJ.thenN (hK2 ?_)
  refine CJ.seq fun _ hK3 _ => ?_
  refine CJ.seq fun _ hK4 _ => ?_
  refine CJ.region ?_
  refine J.p (PR.fldA u44 rfl sz22 rfl) rfl ?_
  refine J.p (PR.load rfl (.s .z) rfl pl22) rfl ?_
  refine J.p (PR.lenSlice u22 rfl rfl) rfl ?_
  refine J.p (PR.move rfl) rfl ?_
  refine J.nil ?_
  refine EJ.thenN (hK4 ?_)
  refine CJ.block ?_
  refine CJ.loopU (σ := Option Addr × Nat × Nat) (fun ⟨q, c, k⟩ => [(10, .int .i64 (k : Int)), (3, .slice q k c)]) (fun ⟨q, c, k⟩ => H) (fun ⟨q, c, k⟩ => own 9 1 q k c ((gensT ad af k).map sV) :: obj g1 (.cells [.slice qad ad.length cad, .slice qaf af.length caf].toArray 44 (0, 0)) :: L) (fun ⟨q, c, k⟩ => k ≤ ad.length) (fun ⟨q, c, k⟩ => ad.length - k) (qo6, co6, 0) (by show 0 ≤ ad.length; omega) ⟨rfl, ⟨rfl, trivial⟩⟩ rfl rfl ?_
  rintro ⟨q, c, k⟩ hk _ hAg0
  refine CJ.seq fun _ hK5 _ => ?_
  refine CJ.region ?_
  refine J.p (PR.lss rfl rfl) rfl ?_
  refine J.nil ?_
  refine EJ.thenN (hK5 ?_)
  refine CJ.seq fun _ hK6 _ => ?_
  refine CJ.condD rfl (fun h11 => ?_) (fun h11 => ?_)
  ·
    have hil : k < af.length := by have := hA.hl; omega
    have hfl := hA.len k hil
    have hff := hA.fac k hil
    have hwi := hA.wf.fm k
    have hgl := textT_len hwi hff hfl
    have hdi := hA.hd k
    have hdl := decL_len hdi.1 (by omega)
    refine CJ.skip ?_
    refine EJ.thenN (hK6 ?_)
    refine CJ.seq fun _ hK7 _ => ?_
    refine CJ.block ?_
    refine CJ.seq fun _ hK8 _ => ?_
    refine CJ.region ?_
    refine J.p (PR.move rfl) rfl ?_
    refine J.p (PR.idx1 u22 sz2 rfl rfl rfl (by omega) had.sm) rfl ?_
    refine J.p (PR.loadH rfl (had _ (by omega)) pl2) rfl ?_
    refine J.p (PR.assign rfl) rfl ?_
    refine J.p (PR.assign rfl) rfl ?_
    refine J.nil ?_
    refine EJ.thenN (hK8 ?_)
    refine CJ.openR (Rs := [_, _]) 14 [[], [], [1], [1, 2], [], [4], [], [4, 5, 6], [4, 5, 6, 7], [1, 2, 4, 5, 6, 7, 8], [1, 2, 3, 4, 5, 6, 7, 8, 9], [1, 2, 3, 4, 5, 6, 7, 8, 9, 10], [0, 1, 2, 3, 4, 5, 6, 7, 8, 9, 10, 11], [0, 1, 2, 3, 4, 5, 6, 7, 8, 9, 10, 11, 12]] [[], [], [], [], [], [15], [], [], [], [], [], [], [11], []] [[], [], [], [], [], [], [], [], [], [], [], [], [14], []] rfl rfl (by kernel_rfl) ?_
    apply GJ.st0 1 rfl
    iterate 3 focus (intros; (conv => lhs; simp only [slotsZ, zlAt, vs0, resL, at2, eq_self, Nat.reduceEqDiff, reduceIte, Nat.reduceSub, Nat.reduceAdd, List.cons_append, List.nil_append]); all_goals rfl)
    ·
      intro gh X K zq zc zq2 zc2 zb zv hK
      refine J.p (PR.move rfl) rfl ?_
      refine J.nilK ?_
      exact hK zq zc zq2 zc2 zb zv
    ·
      intro gh gh' h
      rfl
    apply GJ.st0 2 rfl
    iterate 3 focus (intros; (conv => lhs; simp only [slotsZ, zlAt, vs0, resL, at2, eq_self, Nat.reduceEqDiff, reduceIte, Nat.reduceSub, Nat.reduceAdd, List.cons_append, List.nil_append]); all_goals rfl)
    ·
      intro gh X K zq zc zq2 zc2 zb zv hK
      refine J.p (PR.move rfl) rfl ?_
      refine J.nilK ?_
      exact hK zq zc zq2 zc2 zb zv
    ·
      intro gh gh' h
      rfl
    apply GJ.st0 3 rfl
    iterate 3 focus (intros; (conv => lhs; simp only [slotsZ, zlAt, vs0, resL, at2, eq_self, Nat.reduceEqDiff, reduceIte, Nat.reduceSub, Nat.reduceAdd, List.cons_append, List.nil_append]); all_goals rfl)
    ·
      intro gh X K zq zc zq2 zc2 zb zv hK
      refine J.call fn39 rfl rfl fun w hH => (decimal_c (by omega) hT hH).mono ?_
      rintro _ w ⟨rfl, hH⟩
      refine ⟨_, rfl, fun a hF => J.of hF hH ?_⟩
      refine J.nilK ?_
      exact hK zq zc zq2 zc2 zb zv
    ·
      intro gh gh' h
      rfl
    apply GJ.st0 4 rfl
    iterate 3 focus (intros; (conv => lhs; simp only [slotsZ, zlAt, vs0, resL, at2, eq_self, Nat.reduceEqDiff, reduceIte, Nat.reduceSub, Nat.reduceAdd, List.cons_append, List.nil_append]); all_goals rfl)
    ·
      intro gh X K zq zc zq2 zc2 zb zv hK
      refine J.p (PR.strAdd rfl rfl (by first | omega | (simp only [List.length_append, List.length_singleton]; omega))) rfl ?_
      refine J.nilK ?_
      exact hK zq zc zq2 zc2 zb zv
    ·
      intro gh gh' h
      rfl
    apply GJ.st0 5 rfl
    iterate 3 focus (intros; (conv => lhs; simp only [slotsZ, zlAt, vs0, resL, at2, eq_self, Nat.reduceEqDiff, reduceIte, Nat.reduceSub, Nat.reduceAdd, List.cons_append, List.nil_append]); all_goals rfl)
    ·
      intro gh X K zq zc zq2 zc2 zb zv hK
      refine J.p (PR.fldA u44 rfl sz42 rfl) rfl ?_
      refine J.nilK ?_
      exact hK zq zc zq2 zc2 zb zv
    ·
      intro gh gh' h
      rfl
    apply GJ.st0 6 rfl
    iterate 3 focus (intros; (conv => lhs; simp only [slotsZ, zlAt, vs0, resL, at2, eq_self, Nat.reduceEqDiff, reduceIte, Nat.reduceSub, Nat.reduceAdd, List.cons_append, List.nil_append]); all_goals rfl)
    ·
      intro gh X K zq zc zq2 zc2 zb zv hK
      refine J.p (PR.load rfl At.z rfl pl42) rfl ?_
      refine J.nilK ?_
      exact hK zq zc zq2 zc2 zb zv
    ·
      intro gh gh' h
      rfl
    apply GJ.st0 7 rfl
    iterate 3 focus (intros; (conv => lhs; simp only [slotsZ, zlAt, vs0, resL, at2, eq_self, Nat.reduceEqDiff, reduceIte, Nat.reduceSub, Nat.reduceAdd, List.cons_append, List.nil_append]); all_goals rfl)
    ·
      intro gh X K zq zc zq2 zc2 zb zv hK
      refine J.p (PR.move rfl) rfl ?_
      refine J.nilK ?_
      exact hK zq zc zq2 zc2 zb zv
    ·
      intro gh gh' h
      rfl
    apply GJ.st0 8 rfl
    iterate 3 focus (intros; (conv => lhs; simp only [slotsZ, zlAt, vs0, resL, at2, eq_self, Nat.reduceEqDiff, reduceIte, Nat.reduceSub, Nat.reduceAdd, List.cons_append, List.nil_append]); all_goals rfl)
    ·
      intro gh X K zq zc zq2 zc2 zb zv hK
      refine J.p (PR.idx1 u42 sz32 rfl rfl rfl (by omega) haf.sm) rfl ?_
      refine J.nilK ?_
      exact hK zq zc zq2 zc2 zb zv
    ·
      intro gh gh' h
      rfl
    obtain ⟨qe23, ce23, he23, le23, Fe23⟩ := haf k (by omega)
    apply GJ.st0 9 rfl
    iterate 3 focus (intros; (conv => lhs; simp only [slotsZ, zlAt, vs0, resL, at2, eq_self, Nat.reduceEqDiff, reduceIte, Nat.reduceSub, Nat.reduceAdd, List.cons_append, List.nil_append]); all_goals rfl)
    ·
      intro gh X K zq zc zq2 zc2 zb zv hK
      refine J.p (PR.loadHagg (cs := [_]) rfl (one_cell he23) (haf.sm (i := k) (by omega)) ag32) rfl ?_
      refine J.nilK ?_
      exact hK zq zc zq2 zc2 zb zv
    ·
      intro gh gh' h
      rfl
    apply GJ.st0 10 rfl
    iterate 3 focus (intros; (conv => lhs; simp only [slotsZ, zlAt, vs0, resL, at2, eq_self, Nat.reduceEqDiff, reduceIte, Nat.reduceSub, Nat.reduceAdd, List.cons_append, List.nil_append]); all_goals rfl)
    ·
      intro gh X K zq zc zq2 zc2 zb zv hK
      refine J.call fn22 rfl rfl fun w hH => (formText_c Fe23 hfl hff hT hH).mono ?_
      rintro _ w ⟨rfl, hH⟩
      refine ⟨_, rfl, fun a hF => J.of hF hH ?_⟩
      refine J.nilK ?_
      exact hK zq zc zq2 zc2 zb zv
    ·
      intro gh gh' h
      rfl
    apply GJ.st0 11 rfl
    iterate 3 focus (intros; (conv => lhs; simp only [slotsZ, zlAt, vs0, resL, at2, eq_self, Nat.reduceEqDiff, reduceIte, Nat.reduceSub, Nat.reduceAdd, List.cons_append, List.nil_append]); all_goals rfl)
    ·
      intro gh X K zq zc zq2 zc2 zb zv hK
      refine J.p (PR.strAdd rfl rfl (by first | omega | (simp only [List.length_append, List.length_singleton]; omega))) rfl ?_
      refine J.nilK ?_
      exact hK zq zc zq2 zc2 zb zv
    ·
      intro gh gh' h
      rfl
    apply GJ.st1 12 rfl
    iterate 3 focus (intros; (conv => lhs; simp only [slotsZ, zlAt, vs0, resL, at2, eq_self, Nat.reduceEqDiff, reduceIte, Nat.reduceSub, Nat.reduceAdd, List.cons_append, List.nil_append]); all_goals rfl)
    ·
      intro gh X K zq zc zq2 zc2 zb zv hK
      refine J.mk (MK.lit1S u71 ze9 sz9 rfl rfl) rfl fun qo26 co26 => ?_
      refine J.nilK ?_
      exact hK qo26 co26 zq2 zc2 zb zv
    ·
      intro gh gh' h
      refine ⟨?_, ?_⟩ <;> rfl
    apply GJ.st1 13 rfl
    iterate 3 focus (intros; (conv => lhs; simp only [slotsZ, zlAt, vs0, resL, at2, eq_self, Nat.reduceEqDiff, reduceIte, Nat.reduceSub, Nat.reduceAdd, List.cons_append, List.nil_append]); all_goals rfl)
    ·
      intro gh X K zq zc zq2 zc2 zb zv hK
      refine J.append1 u71 ze9 sz9 by9 rfl rfl rfl rfl (by omega) (.s .z) At.z (fun _ _ => At.z) rfl fun qo27 co27 => ?_
      refine EJ.front .z ?_
      refine EJ.front (.s .z) ?_
      refine J.nilK ?_
      exact hK qo27 co27 zq2 zc2 zb zv
    ·
      intro gh gh' h
      refine ⟨?_, ?_⟩ <;> (first | simp only [h 11 rfl] | rfl)
    apply GJ.st0 14 rfl
    iterate 3 focus (intros; (conv => lhs; simp only [slotsZ, zlAt, vs0, resL, at2, eq_self, Nat.reduceEqDiff, reduceIte, Nat.reduceSub, Nat.reduceAdd, List.cons_append, List.nil_append]); all_goals rfl)
    ·
      intro gh X K zq zc zq2 zc2 zb zv hK
      refine J.p (PR.assign rfl) rfl ?_
      refine J.nilK ?_
      exact hK zq zc zq2 zc2 zb zv
    ·
      intro gh gh' h
      first | simp only [h 11 rfl, h 12 rfl] | rfl
    apply GJ.close [0, 1, 2, 3, 4, 5, 6, 7, 8, 9, 10, 11, 12, 13] [0, 1, 2, 3, 4, 5, 6, 7, 8, 9, 10, 11, 12, 13, 15] foll0 rfl rfl rfl (by rfl)
    iterate 2 focus (intros; (conv => lhs; simp only [slotsZ, zlAt, vs0, resL, at2, eq_self, Nat.reduceEqDiff, reduceIte, Nat.reduceSub, Nat.reduceAdd, List.cons_append, List.nil_append]); all_goals rfl)
    intro gh
    generalize (gh 11).c = co26
    generalize (gh 11).q = qo26
    generalize (gh 12).c = co27
    generalize (gh 12).q = qo27
    clear gh
    refine EJ.inN ?_
    refine EJ.thenN (hK7 ?_)
    refine CJ.region ?_
    refine J.p (PR.add rfl rfl (by first | exact nw _ (by omega) | rfl)) rfl ?_
    refine J.p (PR.move rfl) rfl ?_
    refine J.nil ?_
    refine EJ.thenN ?_
    refine EJ.drop .z ?_
    exact hAg0 (qo27, co27, k + 1) (by show k + 1 ≤ ad.length; omega) (by show ad.length - (k + 1) < ad.length - k; omega) 24 rfl rfl ⟨rfl, ⟨rfl, trivial⟩⟩ rfl (by dsimp only; rw [gensT_succ, List.map_append]; rfl)
  ·
    refine CJ.exit ?_
    refine EJ.thenE ?_
    refine EJ.thenE ?_
    refine EJ.inE ?_
    refine EJ.thenN (hK3 ?_)
    refine CJ.seq fun _ hK9 _ => ?_
    refine CJ.region ?_
    refine J.p (PR.move rfl) rfl ?_
    obtain rfl : k = ad.length := by omega
    have hp0 := hp9 ad.length (by omega)
    refine J.call fn41 rfl rfl fun w hH => (joinA_c (xs := gensT ad af ad.length) (sep := [59]) (gensT_len _ _ _) List.mem_cons_self (by omega) (by rw [← preA_join]; omega) hH).mono ?_
    rintro _ w ⟨rfl, hH⟩
    refine ⟨_, rfl, fun a hF => J.of hF hH ?_⟩
    refine J.p (PR.assign rfl) rfl ?_
    refine J.nil ?_
    refine EJ.thenN (hK9 ?_)
    refine CJ.ret ?_
    refine EJ.ret1 rfl (Res.tmp rfl) fun w hH => ?_
    replace hH := hH.tail
    replace hH := hH.tail
    exact ⟨rfl, hH⟩
set_option maxRecDepth 10000 in
theorem AlgebraText_c {B : World} {H0 H : HP} {L : List SA} {w : World} {qad qaf : Option Addr} {cad caf : Nat} {ad : List Int} {af : List (List Term)}  (had : Ints H qad ad) (haf : Forms H qaf af) (hn8 : ad.length ≤ 1048576) (hn9 : af.length ≤ 1048576) (hl9 : ∀ i, i < af.length → (fm af i).length ≤ 1048576) (hT : TabOk Tryd.prog nmT H) (hH : Hp B H0 H L w) :
    Calls Tryd.prog 15 [.agg [.slice qad ad.length cad, .slice qaf af.length caf].toArray].toArray w fun e w' => e = .returned (.tuple #[sV (alT ad af), .int .i64 (algC ad af)]) ∧ Hp B H0 H L w' := by
  refine CJ.enter Tryd.func15 rfl 11 rfl rfl [(0, .agg [.slice qad ad.length cad, .slice qaf af.length caf].toArray)] rfl hH ?_
  have hw0 := hH.old
  have hw1 := hH.le
  clear hH
  refine CJ.seq fun _ hK1 _ => ?_
  refine CJ.region ?_
  refine J.box rfl rfl rfl fun g1 => ?_
  refine J.freezeRow .z fun H2 hle2 hc2 => ?_
  replace had := had.le hle2
  replace haf := haf.le hle2
  have pad : CellAt H2 g1 0 (.slice qad ad.length cad) := hc2 0 _ rfl
  have paf : CellAt H2 g1 1 (.slice qaf af.length caf) := hc2 1 _ rfl
  refine J.p (PR.assign rfl) rfl ?_
  refine J.p (PR.assign rfl) rfl ?_
  refine J.nil ?_
  refine EJ.thenN (hK1 ?_)
  refine CJ.seq fun _ hK2 _ => ?_
  refine CJ.seq fun _ hK3 _ => ?_
  refine CJ.region ?_
  refine J.call fn29 rfl rfl fun w hH => (algebraCode_c pad paf had haf (forms_nil H2) hn8 hn9 hl9 (by simp) (fun i hi => by simp at hi) hH).mono ?_
  rintro _ w ⟨rfl, hH⟩
  refine ⟨_, rfl, fun a hF => J.of hF hH ?_⟩
  refine J.p (PR.assign rfl) rfl ?_
  refine J.nil ?_
  refine EJ.thenN (hK3 ?_)
  refine CJ.seq fun _ hK4 _ => ?_
  refine CJ.region ?_
  refine J.p (PR.move rfl) rfl ?_
  refine J.p (PR.neq rfl rfl) rfl ?_
  refine J.nil ?_
  refine EJ.thenN (hK4 ?_)
  refine CJ.condD rfl (fun h7 => ?_) (fun h7 => ?_)
  ·
    rw [codeA_nil] at h7 ⊢
    refine CJ.seq fun _ hK5 _ => ?_
    refine CJ.region ?_
    refine J.p (PR.move rfl) rfl ?_
    refine J.p (PR.assign rfl) rfl ?_
    refine J.p (PR.assign rfl) rfl ?_
    refine J.nil ?_
    refine EJ.thenN (hK5 ?_)
    refine CJ.ret ?_
    refine EJ.thenR ?_
    refine EJ.ret2 rfl (Res.tmp rfl) (Res.tmp rfl) fun w hH => ?_
    obtain ⟨e1, e2⟩ := al_no (algC_ne h7)
    rw [e1]
    exact ⟨rfl, hH.weaken hle2 hw0 hw1⟩
  ·
    rw [codeA_nil] at h7
    have hA7 := algC_eq h7
    have hA := (isAlg_ok hA7 haf.wfss).tx
    refine CJ.skip ?_
    refine EJ.thenN (hK2 ?_)
    refine CJ.seq fun _ hK6 _ => ?_
    refine CJ.region ?_
    refine J.p (PR.loadHb rfl pad paf ag44) rfl ?_
    refine J.call fn30 rfl rfl fun w hH => (algebraText_c had haf hA (hT.le hle2) hH).mono ?_
    rintro _ w ⟨rfl, hH⟩
    refine ⟨_, rfl, fun a hF => J.of hF hH ?_⟩
    refine J.p (PR.assign rfl) rfl ?_
    refine J.p (PR.assign rfl) rfl ?_
    refine J.nil ?_
    refine EJ.thenN (hK6 ?_)
    refine CJ.ret ?_
    refine EJ.ret2 rfl (Res.tmp rfl) (Res.tmp rfl) fun w hH => ?_
    obtain ⟨e1, e2⟩ := al_yes hA7
    rw [e1, e2]
    exact ⟨rfl, hH.weaken hle2 hw0 hw1⟩
end Go.Proofs.YtbjhllmcnfncdaaDoor.G
namespace Go.Proofs.YtbjhllmcnfncdaaDoor.G
open Go Go.RowKit
namespace Lw
theorem u39 : Tryd.prog.underlying 39 = some (TypeDesc.struct #[{ name := "Degrees", type := 22, offset := 0, embedded := false, tag := "", pkgPath := "", byteOffset := 0 }, { name := "Images", type := 37, offset := 1, embedded := false, tag := "", pkgPath := "", byteOffset := 24 }]) := by kernel_rfl
theorem u44 : Tryd.prog.underlying 44 = some (TypeDesc.struct #[{ name := "Degrees", type := 22, offset := 0, embedded := false, tag := "", pkgPath := "", byteOffset := 0 }, { name := "Images", type := 42, offset := 1, embedded := false, tag := "", pkgPath := "", byteOffset := 24 }]) := by kernel_rfl
theorem sz44 : Size Tryd.prog 44 2 := by unfold Size; kernel_rfl
theorem ze44 : Zero Tryd.prog 44 [.slice none 0 0, .slice none 0 0] := by unfold Zero; kernel_rfl
theorem ag39 : Agg Tryd.prog 39 2 := ⟨_, u39, rfl, by kernel_rfl⟩
theorem ag44 : Agg Tryd.prog 44 2 := ⟨_, u44, rfl, by kernel_rfl⟩
theorem fn12 : Fn Tryd.prog 12 := ⟨_, Tryd.func12, by kernel_rfl, rfl⟩
theorem fn13 : Fn Tryd.prog 13 := ⟨_, Tryd.func13, by kernel_rfl, rfl⟩
theorem fn14 : Fn Tryd.prog 14 := ⟨_, Tryd.func14, by kernel_rfl, rfl⟩
theorem fn15 : Fn Tryd.prog 15 := ⟨_, Tryd.func15, by kernel_rfl, rfl⟩
theorem fn16 : Fn Tryd.prog 16 := ⟨_, Tryd.func16, by kernel_rfl, rfl⟩
theorem foll0 : Tryd.prog.follows .mixedOrders = true := by kernel_rfl
end Lw
open Lw
set_option maxHeartbeats 2000000 in
set_option maxRecDepth 10000 in
theorem lawAlgebraText_c {B : World} {H0 H : HP} {L : List SA} {w : World} {qad qaf : Option Addr} {cad caf : Nat} {ad : List Int} {af : List (List Term)}  (had : Ints H qad ad) (haf : Forms H qaf af) (hn : ad.length ≤ 9223372036854775807 ∧ af.length ≤ 9223372036854775807) (hl : ∀ i, i < af.length → (fm af i).length ≤ 9223372036854775807) (hT : TabOk Tryd.prog nmT H) (hH : Hp B H0 H L w) :
    Calls Tryd.prog 4 [.agg [.slice qad ad.length cad, .slice qaf af.length caf].toArray].toArray w fun e w' => e = .returned (.bool true) ∧ Below B.heap.size B w' := by
  refine CJ.enter Tryd.func4 rfl 40 rfl rfl [(0, .agg [.slice qad ad.length cad, .slice qaf af.length caf].toArray)] rfl hH ?_
  clear hH
  refine CJ.seq fun _ hK1 _ => ?_
  refine CJ.region ?_
  refine J.box rfl rfl rfl fun g1 => ?_
  refine J.p (PR.assign rfl) rfl ?_
  refine J.nil ?_
  refine EJ.thenN (hK1 ?_)
  refine CJ.seq fun _ hK2 _ => ?_
  refine CJ.region ?_
  refine J.p (PR.assign rfl) rfl ?_
  refine J.nil ?_
  refine EJ.thenN (hK2 ?_)
  refine CJ.seq fun _ hK3 _ => ?_
  refine CJ.region ?_
  refine J.p (PR.loadAll rfl At.z (by simpa [*] using ag39)) rfl ?_
  refine J.p (PR.move rfl) rfl ?_
  refine J.call fn12 rfl rfl fun w hH => (szAlgebra_c had haf (by omega) hl hH).mono ?_
  rintro _ w ⟨rfl, hH⟩
  refine ⟨_, rfl, fun a hF => J.of hF hH ?_⟩
  refine J.p (PR.assign rfl) rfl ?_
  refine J.nil ?_
  refine EJ.thenN (hK3 ?_)
  refine CJ.seq fun _ hK4 _ => ?_
  refine CJ.seq fun _ hK5 _ => ?_
  refine CJ.region ?_
  refine J.p (PR.move rfl) rfl ?_
  refine J.p (PR.lss rfl rfl) rfl ?_
  refine J.nil ?_
  refine EJ.thenN (hK5 ?_)
  refine CJ.condD rfl (fun h11 => ?_) (fun h11 => ?_)
  ·
    refine CJ.seq fun _ hK6 _ => ?_
    refine CJ.region ?_
    refine J.p (PR.assign rfl) rfl ?_
    refine J.nil ?_
    refine EJ.thenN (hK6 ?_)
    refine CJ.ret ?_
    refine EJ.thenR ?_
    refine EJ.ret1 rfl (Res.tmp rfl) fun w hH => ?_
    replace hH := hH.tail
    first | exact ⟨rfl, hH.below⟩ | exact absurd rfl h11p | exact absurd rfl h11 | (exfalso; omega) | (simp at h11; done)
  ·
    have hsz : ad.length + af.length + tot af ≤ 1048576 := by unfold szv at h11; split at h11 <;> omega
    have hl6 : ∀ i, i < af.length → (fm af i).length ≤ 1048576 := fun i hi => by have := tot_fm hi; omega
    refine CJ.skip ?_
    refine EJ.thenN (hK4 ?_)
    refine CJ.seq fun _ hK7 _ => ?_
    refine CJ.region ?_
    refine J.p (PR.loadAll rfl At.z (by simpa [*] using ag39)) rfl ?_
    refine J.call fn14 rfl rfl fun w hH => (toAlgebra_c had haf (by omega) hl6 hH).mono ?_
    rintro _ w ⟨qdo16, cdo16, qfo16, cfo16, vso16, rfl, hH⟩
    refine ⟨_, rfl, fun a hF => J.of hF hH ?_⟩
    refine J.call fn13 rfl rfl fun w hH => hH.lend .z fun Hl1 hle1 hA1 hB1 hH => hH.lend .z fun Hl2 hle2 hA2 hB2 hH => (sAlgebraText_c ((own_ints hA1).le hle2) (own_forms haf.wfss hA2) (by omega) (by omega) hl6 hH).mono ?_
    rintro _ w ⟨rfl, hH⟩
    replace hH := hB2 _ _ hH
    replace hH := hB1 _ _ hH
    refine ⟨_, rfl, fun a hF => J.of hF hH ?_⟩
    refine J.p (PR.move rfl) rfl ?_
    refine J.p (PR.extract rfl rfl) rfl ?_
    refine J.p (PR.extract rfl rfl) rfl ?_
    refine J.p (PR.assign rfl) rfl ?_
    refine J.p (PR.assign rfl) rfl ?_
    refine J.nil ?_
    refine EJ.thenN (hK7 ?_)
    refine CJ.seq fun _ hK8 _ => ?_
    refine CJ.region ?_
    refine J.p (PR.loadAll rfl (.s (.s .z)) (by simpa [*] using ag39)) rfl ?_
    refine J.call fn14 rfl rfl fun w hH => (toAlgebra_c had haf (by omega) hl6 hH).mono ?_
    rintro _ w ⟨qdo21, cdo21, qfo21, cfo21, vso21, rfl, hH⟩
    refine ⟨_, rfl, fun a hF => J.of hF hH ?_⟩
    refine J.alloc ze44 rfl fun g6 => ?_
    refine J.storeAll rfl rfl (by first | exact bytesC_one _ | exact intsC_one _ | exact Term.c_one _ | simp [Value.oneCell']) (by simpa [*] using sz44) (by simp [*]) At.z ?_
    refine J.nil ?_
    refine EJ.thenN (hK8 ?_)
    refine CJ.seq fun _ hK9 _ => ?_
    refine CJ.region ?_
    refine J.p (PR.loadAll rfl At.z (by simpa [*] using ag44)) rfl ?_
    refine J.call fn15 rfl rfl fun w hH => hH.lend (.s .z) fun Hl1 hle1 hA1 hB1 hH => hH.lend (.s .z) fun Hl2 hle2 hA2 hB2 hH => (AlgebraText_c ((own_ints hA1).le hle2) (own_forms haf.wfss hA2) (by omega) (by omega) hl6 (((hT.le hle1).le hle2)) hH).mono ?_
    rintro _ w ⟨rfl, hH⟩
    replace hH := hB2 _ _ hH
    replace hH := hB1 _ _ hH
    refine ⟨_, rfl, fun a hF => J.of hF hH ?_⟩
    refine J.p (PR.move rfl) rfl ?_
    refine J.p (PR.extract rfl rfl) rfl ?_
    refine J.p (PR.extract rfl rfl) rfl ?_
    refine J.p (PR.assign rfl) rfl ?_
    refine J.p (PR.assign rfl) rfl ?_
    refine J.nil ?_
    refine EJ.thenN (hK9 ?_)
    refine CJ.seq fun _ hK10 _ => ?_
    refine CJ.seq fun _ hK11 _ => ?_
    refine CJ.region ?_
    refine J.p (PR.move rfl) rfl ?_
    refine J.p (PR.move rfl) rfl ?_
    refine J.p (PR.strNeq rfl rfl) rfl ?_
    refine J.p (PR.move rfl) rfl ?_
    refine J.splitB (jd := 30) rfl (fun hg30 => ?_) (fun hg30 => ?_)
    ·
      try have hg30p := of_decide_eq_true hg30
      refine J.gn rfl rfl rfl hg30 ?_
      refine J.gn rfl rfl rfl hg30 ?_
      refine J.gn rfl rfl rfl hg30 ?_
      refine J.p (PR.pickT rfl hg30 rfl) rfl ?_
      refine J.nil ?_
      refine EJ.thenN (hK11 ?_)
      refine CJ.condT rfl ?_
      refine CJ.seq fun _ hK12 _ => ?_
      refine CJ.region ?_
      refine J.p (PR.assign rfl) rfl ?_
      refine J.nil ?_
      refine EJ.thenN (hK12 ?_)
      refine CJ.ret ?_
      refine EJ.thenR ?_
      refine EJ.ret1 rfl (Res.tmp rfl) fun w hH => ?_
      replace hH := hH.tail
      replace hH := hH.tail
      replace hH := hH.tail
      replace hH := hH.tail
      replace hH := hH.tail
      replace hH := hH.tail
      first | exact ⟨rfl, hH.below⟩ | exact absurd rfl hg30p | exact absurd rfl hg30 | (exfalso; omega) | (simp at hg30; done)
    ·
      try have hg30p := of_decide_eq_false hg30
      refine J.gy (PR.move rfl) rfl rfl rfl hg30 ?_
      refine J.gy (PR.move rfl) rfl rfl rfl hg30 ?_
      refine J.gy (PR.neq rfl rfl) rfl rfl rfl hg30 ?_
      refine J.p (PR.pickF rfl hg30 rfl) rfl ?_
      refine J.nil ?_
      refine EJ.thenN (hK11 ?_)
      refine CJ.condD rfl (fun hc34 => ?_) (fun hc34 => ?_)
      ·
        refine CJ.seq fun _ hK13 _ => ?_
        refine CJ.region ?_
        refine J.p (PR.assign rfl) rfl ?_
        refine J.nil ?_
        refine EJ.thenN (hK13 ?_)
        refine CJ.ret ?_
        refine EJ.thenR ?_
        refine EJ.ret1 rfl (Res.tmp rfl) fun w hH => ?_
        replace hH := hH.tail
        replace hH := hH.tail
        replace hH := hH.tail
        replace hH := hH.tail
        replace hH := hH.tail
        replace hH := hH.tail
        first | exact ⟨rfl, hH.below⟩ | exact absurd rfl hc34p | exact absurd rfl hc34 | (exfalso; omega) | (simp at hc34; done)
      ·
        refine CJ.skip ?_
        refine EJ.thenN (hK10 ?_)
        refine CJ.seq fun _ hK14 _ => ?_
        refine CJ.seq fun _ hK15 _ => ?_
        refine CJ.openR (Rs := [_, _, _, _, _, _]) 5 [[], [], [1], [0, 1, 2], [0, 1, 2, 3]] [[7], [10], [], [2, 5, 6], []] [[], [], [], [], []] rfl rfl (by kernel_rfl) ?_
        apply GJ.st0 1 rfl
        iterate 3 focus (intros; (conv => lhs; simp only [slotsZ, zlAt, vs0, resL, at2, eq_self, Nat.reduceEqDiff, reduceIte, Nat.reduceSub, Nat.reduceAdd, List.cons_append, List.nil_append]); all_goals rfl)
        ·
          intro gh X K zq zc zq2 zc2 zb zv hK
          refine J.p (PR.loadAll rfl At.z (by simpa [*] using ag44)) rfl ?_
          refine J.nilK ?_
          exact hK zq zc zq2 zc2 zb zv
        ·
          intro gh gh' h
          rfl
        apply GJ.st0 2 rfl
        iterate 3 focus (intros; (conv => lhs; simp only [slotsZ, zlAt, vs0, resL, at2, eq_self, Nat.reduceEqDiff, reduceIte, Nat.reduceSub, Nat.reduceAdd, List.cons_append, List.nil_append]); all_goals rfl)
        ·
          intro gh X K zq zc zq2 zc2 zb zv hK
          refine J.p (PR.loadAll rfl At.z (by simpa [*] using ag39)) rfl ?_
          refine J.nilK ?_
          exact hK zq zc zq2 zc2 zb zv
        ·
          intro gh gh' h
          rfl
        apply GJ.st2 3 rfl
        iterate 3 focus (intros; (conv => lhs; simp only [slotsZ, zlAt, vs0, resL, at2, eq_self, Nat.reduceEqDiff, reduceIte, Nat.reduceSub, Nat.reduceAdd, List.cons_append, List.nil_append]); all_goals rfl)
        ·
          intro gh X K zq zc zq2 zc2 zb zv hK
          refine J.call fn14 rfl rfl fun w hH => (toAlgebra_c had haf (by omega) hl6 hH).mono ?_
          rintro _ w ⟨qdo37, cdo37, qfo37, cfo37, vso37, rfl, hH⟩
          refine ⟨_, rfl, fun a hF => J.of hF hH ?_⟩
          refine J.nilK ?_
          exact hK qdo37 cdo37 qfo37 cfo37 zb vso37
        ·
          intro gh gh' h
          refine ⟨?_, ?_, ?_⟩ <;> rfl
        apply GJ.st0 4 rfl
        iterate 3 focus (intros; (conv => lhs; simp only [slotsZ, zlAt, vs0, resL, at2, eq_self, Nat.reduceEqDiff, reduceIte, Nat.reduceSub, Nat.reduceAdd, List.cons_append, List.nil_append]); all_goals rfl)
        ·
          intro gh X K zq zc zq2 zc2 zb zv hK
          refine J.call fn16 rfl rfl fun w hH => hH.lend (.s (.s .z)) fun Hl1 hle1 hA1 hB1 hH => hH.lend (.s (.s .z)) fun Hl2 hle2 hA2 hB2 hH => hH.lend .z fun Hl3 hle3 hA3 hB3 hH => hH.lend .z fun Hl4 hle4 hA4 hB4 hH => (eqAlgebra_c ((((own_ints hA1).le hle2).le hle3).le hle4) (((own_forms haf.wfss hA2).le hle3).le hle4) ((own_ints hA3).le hle4) (own_forms haf.wfss hA4) (by omega) (by omega) hl hH).mono ?_
          rintro _ w ⟨rfl, hH⟩
          replace hH := hB4 _ _ hH
          replace hH := hB3 _ _ hH
          replace hH := hB2 _ _ hH
          replace hH := hB1 _ _ hH
          refine ⟨_, rfl, fun a hF => J.of hF hH ?_⟩
          refine EJ.front (.s .z) ?_
          refine EJ.front (.s .z) ?_
          refine EJ.front (.s (.s (.s .z))) ?_
          refine EJ.front (.s (.s (.s .z))) ?_
          refine J.nilK ?_
          exact hK zq zc zq2 zc2 zb zv
        ·
          intro gh gh' h
          first | simp only [h 2 rfl] | rfl
        apply GJ.st0 5 rfl
        iterate 3 focus (intros; (conv => lhs; simp only [slotsZ, zlAt, vs0, resL, at2, eq_self, Nat.reduceEqDiff, reduceIte, Nat.reduceSub, Nat.reduceAdd, List.cons_append, List.nil_append]); all_goals rfl)
        ·
          intro gh X K zq zc zq2 zc2 zb zv hK
          refine J.p (PR.not rfl) rfl ?_
          refine J.nilK ?_
          exact hK zq zc zq2 zc2 zb zv
        ·
          intro gh gh' h
          first | simp only [h 2 rfl] | rfl
        apply GJ.close [0, 1, 2, 3, 4] [0, 1, 2, 3, 4, 5, 6, 7, 8, 9, 10] foll0 rfl rfl rfl (by rfl)
        iterate 2 focus (intros; (conv => lhs; simp only [slotsZ, zlAt, vs0, resL, at2, eq_self, Nat.reduceEqDiff, reduceIte, Nat.reduceSub, Nat.reduceAdd, List.cons_append, List.nil_append]); all_goals rfl)
        intro gh
        generalize (gh 2).c = cdo37
        generalize (gh 2).c2 = cfo37
        generalize (gh 2).q = qdo37
        generalize (gh 2).q2 = qfo37
        generalize (gh 2).vs = vso37
        clear gh
        refine EJ.thenN (hK15 ?_)
        refine CJ.cond rfl (fun hc39 => ?_) (fun hc39 => ?_)
        ·
          refine CJ.seq fun _ hK16 _ => ?_
          refine CJ.region ?_
          refine J.p (PR.assign rfl) rfl ?_
          refine J.nil ?_
          refine EJ.thenN (hK16 ?_)
          refine CJ.ret ?_
          refine EJ.thenR ?_
          refine EJ.ret1 rfl (Res.tmp rfl) fun w hH => ?_
          replace hH := hH.tail
          replace hH := hH.tail
          replace hH := hH.tail
          replace hH := hH.tail
          replace hH := hH.tail
          replace hH := hH.tail
          replace hH := hH.tail
          replace hH := hH.tail
          first | exact ⟨rfl, hH.below⟩ | exact absurd rfl hc39p | exact absurd rfl hc39 | (exfalso; omega) | (simp at hc39; done)
        ·
          refine CJ.skip ?_
          refine EJ.thenN (hK14 ?_)
          refine CJ.seq fun _ hK17 _ => ?_
          refine CJ.region ?_
          refine J.p (PR.assign rfl) rfl ?_
          refine J.nil ?_
          refine EJ.thenN (hK17 ?_)
          refine CJ.ret ?_
          refine EJ.ret1 rfl (Res.tmp rfl) fun w hH => ?_
          replace hH := hH.tail
          replace hH := hH.tail
          replace hH := hH.tail
          replace hH := hH.tail
          replace hH := hH.tail
          replace hH := hH.tail
          replace hH := hH.tail
          replace hH := hH.tail
          first | exact ⟨rfl, hH.below⟩ | exact absurd rfl hc39p | exact absurd rfl hc39 | (exfalso; omega) | (simp at hc39; done)
end Go.Proofs.YtbjhllmcnfncdaaDoor.G
namespace Go.Proofs.YtbjhllmcnfncdaaDoor.fnExactAlgebraText
open Go.ChangeShapes Go.WideShapes Go.ChangeAt Go.RowKit
open Go.Proofs.YtbjhllmcnfncdaaDoor.G
theorem u39 : Tryd.prog.underlying 39 = some (TypeDesc.struct #[{ name := "Degrees", type := 22, offset := 0, embedded := false, tag := "", pkgPath := "", byteOffset := 0 }, { name := "Images", type := 37, offset := 1, embedded := false, tag := "", pkgPath := "", byteOffset := 24 }]) := by kernel_rfl
theorem u22 : Tryd.prog.underlying 22 = some (TypeDesc.slice 2) := by kernel_rfl
theorem u2 : Tryd.prog.underlying 2 = some (TypeDesc.int .i64) := by kernel_rfl
theorem u37 : Tryd.prog.underlying 37 = some (TypeDesc.slice 25) := by kernel_rfl
theorem u25 : Tryd.prog.underlying 25 = some (TypeDesc.struct #[{ name := "Terms", type := 23, offset := 0, embedded := false, tag := "", pkgPath := "", byteOffset := 0 }]) := by kernel_rfl
theorem u23 : Tryd.prog.underlying 23 = some (TypeDesc.slice 70) := by kernel_rfl
theorem u70 : Tryd.prog.underlying 70 = some (TypeDesc.struct #[{ name := "Monomial", type := 63, offset := 0, embedded := false, tag := "", pkgPath := "", byteOffset := 0 }, { name := "Factor", type := 2, offset := 8, embedded := false, tag := "", pkgPath := "", byteOffset := 8 }]) := by kernel_rfl
theorem u63 : Tryd.prog.underlying 63 = some (TypeDesc.array 8 5) := by kernel_rfl
theorem u5 : Tryd.prog.underlying 5 = some (TypeDesc.int .u8) := by kernel_rfl
theorem u137 : Tryd.prog.underlying 137 = some (TypeDesc.array 20 121) := by kernel_rfl
theorem u121 : Tryd.prog.underlying 121 = some (TypeDesc.int .u64) := by kernel_rfl
theorem u4 : Tryd.prog.underlying 4 = some (TypeDesc.bool) := by kernel_rfl
theorem own : ownKnob Tryd.prog.godebug = none := by kernel_rfl
set_option maxRecDepth 100000 in
theorem door_met (os : Os) (args : Array Value) : laidMetH Tryd.prog Rows.fnExactAlgebraTextRow.laid ((World.doorLaid Tryd.prog 400 os).forCall (fun _ _ => 0) ⟨#[], args, []⟩).memory :=
  laidMetH_of_parts3 (fuel := 8) (laidMet_of_run' 8 (by kernel_rfl) (by kernel_rfl)) (by kernel_rfl) (by kernel_rfl)
theorem tab_ok {W : World} (hL : laidMetH Tryd.prog Rows.fnExactAlgebraTextRow.laid W) : TabOk Tryd.prog nmT (hp W) := by
  rw [MakeChecks.laidMetH_plain _ _ _ (by kernel_rfl)] at hL
  have h1 : laidMet Tryd.prog [(nmT, Lib.tabData .u64 Lib.pow10Tab)] W := hL.tail.tail
  obtain ⟨g, hg⟩ : ∃ g, Tryd.prog.globalNamed nmT = some g := ⟨0, by kernel_rfl⟩
  have h2 : Lib.TabIs Tryd.prog W nmT .u64 Lib.pow10Tab := Lib.tabIs_of_head (P := Tryd.prog) (t := 137) (e := 121) (n := 20) hg (by rw [← Option.some.inj ((show Tryd.prog.globalNamed nmT = some 0 by kernel_rfl).symm.trans hg)]; kernel_rfl) u137 u121 (by kernel_rfl) (by kernel_rfl) h1
  intro w hw
  unfold Lib.TabIs World.var? at h2 ⊢
  rw [hg] at h2 ⊢
  simp only [Option.bind_some] at h2 ⊢
  cases hb : W.heap[g]? with
  | none => rw [hb] at h2; simp at h2
  | some o =>
    have h3 : w.heap[g]? = some o := hw g o hb
    rw [hb] at h2
    rw [h3]
    exact h2
set_option maxRecDepth 100000 in
theorem lifted (os : Os) (started : os.Started) (H : Type) (enc : TypeId × Value → H) :
    ReturnsInHanded {} Tryd.checked os 4 .any (fun w args => (Rows.fnExactAlgebraTextSpec.pre enc Tryd.prog Tryd.f4 Rows.fnExactAlgebraTextRow.domain false w args ∧ laidMetH Tryd.prog Rows.fnExactAlgebraTextRow.laid w) ∧ sizedMet enc Tryd.prog Tryd.f4 (OpenSpec.ofChange Rows.fnExactAlgebraTextSpec) false w args)
      (Rows.fnExactAlgebraTextSpec.post enc Tryd.prog Tryd.f4 false true false false) := by
  refine returnsInHanded_of_change_and (C := Tryd.checked) (X := fun w _ => laidMetH Tryd.prog Rows.fnExactAlgebraTextRow.laid w) (fun _ _ _ hh h => h.of_heap hh) own started (by kernel_rfl) Tryd.func4
    (ChangeSpec.witness_shaped (enc := enc) (C := Tryd.checked) (os := os) (X := fun w _ => laidMetH Tryd.prog Rows.fnExactAlgebraTextRow.laid w) false (World.doorLaid Tryd.prog 400 os) #[.agg #[.slice none 0 0, .slice none 0 0]] 12 rfl (World.shaped_of_RefB (by kernel_rfl) (by kernel_rfl)) (by kernel_rfl) (by kernel_rfl) (by kernel_rfl) (door_met os _)) ?_
  intro W base args ds gs before hval0 hW hcnd hsz0 hL _
  have hT9 := tab_ok hL
  have hval : ∀ (j : Nat) t v, Tryd.f4.params[j]? = some t → args[j]? = some v → Value.okWide Tryd.prog W .any base t v := hval0
  have hW' := hW
  obtain ⟨p, q, hA0, hV, rfl, hfz, hnd⟩ := hW
  have hA : DataW.TrodAll enc Tryd.prog W 0 (fun _ => true) true Tryd.f4.params.toList args.toList ds p := hA0
  rw [Tryd.params4] at hA hval
  obtain ⟨v0, vs0, d0, ds0, p0, q0, hargs, rfl, rfl, h0, r0⟩ := trodAll_cons hA
  obtain ⟨rfl, rfl, rfl⟩ := trodAll_nil r0
  obtain rfl : args = #[v0] := by cases args; simp_all
  obtain ⟨rfl, rfl⟩ := trodVars_none hV
  obtain ⟨q0d, c0d, ds0, q0f, c0f, fs0, rfl, X0, F0, le0, fl0⟩ := openV_alg u39 rfl rfl rfl rfl (by kernel_rfl) (by kernel_rfl) (by kernel_rfl) u22 u2 (by kernel_rfl) u37 (by kernel_rfl) (fun n l y hy => tr_form u25 rfl rfl (by kernel_rfl) (by kernel_rfl) u23 (by kernel_rfl) u70 rfl rfl rfl rfl u63 u5 (by kernel_rfl) (by kernel_rfl) u2 (by kernel_rfl) hy) (hval 0 39 v0 rfl rfl) h0
  clear hA0 hval0 hsz0
  refine ((lawAlgebraText_c X0 F0 le0 fl0 hT9 (Hp.start (H := hp W) fun _ _ h => h)).mono fun e W' ⟨he, bel⟩ => ?_)
  subst he
  exact ⟨_, rfl, law_post (f := Tryd.f4) (by kernel_rfl) (by kernel_rfl) rfl rfl u4 rfl hW' bel⟩
theorem joined : joinedFacts Tryd.prog 4 Tryd.f4 Rows.fnExactAlgebraTextSpec Rows.fnExactAlgebraTextRow = true := by
  unfold joinedFacts
  simp only [Bool.and_eq_true]
  repeat' apply And.intro
  all_goals first
    | with_reducible exact Facts.fEnter
    | with_reducible exact Facts.fLaid
    | with_reducible exact Facts.fMaps
    | with_reducible exact Facts.fHeard
    | (rw [Facts.fMake]; rfl)
    | (rw [Facts.fLift]; rfl)
    | (rw [Facts.fKeys]; rfl)
    | (rw [Facts.fStops]; rfl)
    | (rw [Facts.fStopK]; rfl)
    | as_aux_lemma => kernel_rfl
theorem over : Rows.fnExactAlgebraTextRow.holds Tryd.pinned (OpenSpec.ofChange Rows.fnExactAlgebraTextSpec) :=
  OpenClaim.holds_of_wide 4 Tryd.f4 rfl rfl rfl rfl rfl rfl rfl ⟨rfl, rfl, rfl, rfl, rfl⟩ rfl rfl rfl rfl rfl (by as_aux_lemma => kernel_rfl) Tryd.func4 joined
    (of_decide_eq_true (by as_aux_lemma => kernel_rfl)) (by unfold Func.isWrapper; first | (rw [if_pos (by decide +kernel)]; kernel_rfl) | (rw [if_neg (by decide +kernel)]; exact ⟨rfl, rfl⟩))
    (fun os started H enc _ => lifted os started H enc)
theorem proved : Rows.FnExactAlgebraTextCardSaid :=
  Claim7.holds_tied_plain_at .later [] [.data, .data, .data] true (true, "42dfe4ee58aa75cff37c8fd705bd87ed3c60cf5af0e0ed589015afd8aa5d913d") false
    over (fun _ h => by cases h) (by kernel_rfl) (fun _ h => by cases h) fnExactAlgebraText_row_tie rfl ⟨rfl, rfl⟩ (by kernel_rfl) rfl
    (fun f fn hf hfn => by
      obtain rfl : f = 4 := Option.some.inj ((show Tryd.prog.funcNamed "loop.example/g01219/laws.FnExactAlgebraText" = some 4 by kernel_rfl).symm.trans hf) |>.symm
      obtain rfl : fn = Tryd.f4 := (Option.some.inj (Tryd.func4.symm.trans hfn)).symm
      exact ⟨by kernel_rfl, fun j t ht => by
        rw [Tryd.params4] at ht
        have hm : t ∈ [39] := by simpa using Array.mem_of_getElem? ht
        have hall : ([39].all fun u => !Tryd.prog.wantsStandIn u) = true := by kernel_rfl
        exact (show Tryd.prog.wantsStandIn t = false by simpa using List.all_eq_true.1 hall t hm)⟩)
    (by kernel_rfl)
#print axioms proved
end Go.Proofs.YtbjhllmcnfncdaaDoor.fnExactAlgebraText
namespace Go.Proofs.YtbjhllmcnfncdaaDoor
theorem fnExactAlgebraText_holds : Rows.FnExactAlgebraTextCardSaid := fnExactAlgebraText.proved
end Go.Proofs.YtbjhllmcnfncdaaDoor
