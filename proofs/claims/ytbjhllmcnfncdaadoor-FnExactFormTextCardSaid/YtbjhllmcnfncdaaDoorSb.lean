/- Texts of forms, as the reference has them. No condition. -/
import Derived.Test.YtbjhllmcnfncdaaDoorGStr
import Derived.Test.YtbjhllmcnfncdaaDoorProg
import Derived.Test.YtbjhllmcnfncdaaDoorWa
import Derived.Test.YtbjhllmcnfncdaaDoorWb
import Derived.Test.YtbjhllmcnfncdaaDoorWc
import Derived.Test.YtbjhllmcnfncdaaDoorWd
import Derived.Test.YtbjhllmcnfncdaaDoorWe
import Derived.Test.YtbjhllmcnfncdaaDoorSa
set_option linter.unusedVariables false
set_option linter.unusedSimpArgs false
namespace Go.Proofs.YtbjhllmcnfncdaaDoor.G
open Go Go.RowKit
namespace Sb
theorem u2 : Tryd.prog.underlying 2 = some (TypeDesc.int .i64) := by kernel_rfl
theorem u3 : Tryd.prog.underlying 3 = some (TypeDesc.int .i64) := by kernel_rfl
theorem u30 : Tryd.prog.underlying 30 = some (TypeDesc.slice 66) := by kernel_rfl
theorem u32 : Tryd.prog.underlying 32 = some (TypeDesc.struct #[{ name := "Terms", type := 30, offset := 0, embedded := false, tag := "", pkgPath := "", byteOffset := 0 }]) := by kernel_rfl
theorem u5 : Tryd.prog.underlying 5 = some (TypeDesc.int .u8) := by kernel_rfl
theorem u64 : Tryd.prog.underlying 64 = some (TypeDesc.array 8 5) := by kernel_rfl
theorem u66 : Tryd.prog.underlying 66 = some (TypeDesc.struct #[{ name := "Monomial", type := 64, offset := 0, embedded := false, tag := "", pkgPath := "", byteOffset := 0 }, { name := "Factor", type := 2, offset := 8, embedded := false, tag := "", pkgPath := "", byteOffset := 8 }]) := by kernel_rfl
theorem u83 : Tryd.prog.underlying 83 = some (TypeDesc.slice 5) := by kernel_rfl
theorem u9 : Tryd.prog.underlying 9 = some (TypeDesc.string) := by kernel_rfl
theorem sz2 : Size Tryd.prog 2 1 := by unfold Size; kernel_rfl
theorem sz30 : Size Tryd.prog 30 1 := by unfold Size; kernel_rfl
theorem sz5 : Size Tryd.prog 5 1 := by unfold Size; kernel_rfl
theorem sz64 : Size Tryd.prog 64 8 := by unfold Size; kernel_rfl
theorem sz66 : Size Tryd.prog 66 9 := by unfold Size; kernel_rfl
theorem ze5 : Zero Tryd.prog 5 [.int .u8 0] := by unfold Zero; kernel_rfl
theorem pl2 : Plain Tryd.prog 2 := ⟨_, u2, rfl⟩
theorem pl30 : Plain Tryd.prog 30 := ⟨_, u30, rfl⟩
theorem pl5 : Plain Tryd.prog 5 := ⟨_, u5, rfl⟩
theorem ag32 : Agg Tryd.prog 32 1 := ⟨_, u32, rfl, by kernel_rfl⟩
theorem ag64 : Agg Tryd.prog 64 8 := ⟨_, u64, rfl, by kernel_rfl⟩
theorem fn18 : Fn Tryd.prog 18 := ⟨_, Tryd.func18, by kernel_rfl, rfl⟩
theorem fn19 : Fn Tryd.prog 19 := ⟨_, Tryd.func19, by kernel_rfl, rfl⟩
theorem fn34 : Fn Tryd.prog 34 := ⟨_, Tryd.func34, by kernel_rfl, rfl⟩
theorem fn35 : Fn Tryd.prog 35 := ⟨_, Tryd.func35, by kernel_rfl, rfl⟩
theorem foll0 : Tryd.prog.follows .mixedOrders = true := by kernel_rfl
end Sb
open Sb
theorem su8_id {x : Int} (h : 0 ≤ x ∧ x ≤ 255) : IntKind.u8.wrap x = x := by simp [IntKind.wrap, IntKind.signed, IntKind.bits]; omega
set_option maxRecDepth 10000 in
theorem l01DecX_c {B : World} {H0 H : HP} {L : List SA} {w : World} {x : Int}  (hx : 0 ≤ x ∧ x ≤ 9223372036854775807) (hrec : ∀ y : Int, y = x.tdiv 10 → 10 ≤ x → ∀ (L : List SA) (w : World), Hp B H0 H L w → Calls Tryd.prog 34 [.int .i64 y].toArray w fun r w' => r = .returned (sV (decL y)) ∧ Hp B H0 H L w') (hH : Hp B H0 H L w) :
    Calls Tryd.prog 34 [.int .i64 x].toArray w fun e w' => e = .returned (sV (decL x)) ∧ Hp B H0 H L w' := by
  refine CJ.enter Tryd.func34 rfl 20 rfl rfl [(0, .int .i64 x)] rfl hH ?_
  clear hH
  have hr0 : 0 ≤ x.tmod 10 ∧ x.tmod 10 ≤ 9 := by rw [Int.tmod_eq_emod_of_nonneg hx.1]; omega
  have hq0 : 0 ≤ x.tdiv 10 ∧ x.tdiv 10 ≤ x := by rw [Int.tdiv_eq_ediv_of_nonneg hx.1]; omega
  have hl9 := decL_len (n := x.tdiv 10) hq0.1 (by omega)
  refine CJ.seq fun _ hK1 _ => ?_
  refine CJ.region ?_
  refine J.p (PR.assign rfl) rfl ?_
  refine J.nil ?_
  refine EJ.thenN (hK1 ?_)
  refine CJ.seq fun _ hK2 _ => ?_
  refine CJ.seq fun _ hK3 _ => ?_
  refine CJ.region ?_
  refine J.p (PR.move rfl) rfl ?_
  refine J.p (PR.lss rfl rfl) rfl ?_
  refine J.nil ?_
  refine EJ.thenN (hK3 ?_)
  refine CJ.condD rfl (fun h4 => ?_) (fun h4 => ?_)
  ·
    refine CJ.seq fun _ hK4 _ => ?_
    refine CJ.region ?_
    refine J.p (PR.move rfl) rfl ?_
    refine J.p (PR.add rfl rfl (by first | exact nw _ (by omega) | rfl)) rfl ?_
    refine J.p (PR.conv u2 u5 rfl (su8_id (by omega))) rfl ?_
    refine J.mk (MK.lit1S u83 ze5 sz5 rfl rfl) rfl fun qo8 co8 => ?_
    refine J.p (PR.str1 u83 u5 u9 rfl At.z (by omega)) rfl ?_
    refine J.p (PR.assign rfl) rfl ?_
    refine J.nil ?_
    refine EJ.thenN (hK4 ?_)
    refine CJ.ret ?_
    refine EJ.thenR ?_
    refine EJ.ret1 rfl (Res.tmp rfl) fun w hH => ?_
    replace hH := hH.tail
    exact ⟨by rw [decL_small hx.1 (by omega)], hH⟩
  ·
    refine CJ.skip ?_
    refine EJ.thenN (hK2 ?_)
    refine CJ.seq fun _ hK5 _ => ?_
    refine CJ.openR (Rs := []) 11 [[], [0], [0, 1], [], [3], [3, 4], [3, 4, 5], [3, 4, 5, 6], [3, 4, 5, 6, 7], [0, 1, 2, 3, 4, 5, 6, 7, 8], [0, 1, 2, 3, 4, 5, 6, 7, 8, 9]] [[], [], [], [], [], [], [], [], [7], [], []] [[], [], [], [], [], [], [], [], [], [], []] rfl rfl (by kernel_rfl) ?_
    apply GJ.st0 1 rfl
    · intro gh; conv => lhs; simp only [slotsZ, zlAt, vs0, resL, at2, eq_self, Nat.reduceEqDiff, reduceIte, Nat.reduceSub, Nat.reduceAdd, List.cons_append, List.nil_append]
      all_goals rfl
    · intro gh X; conv => lhs; simp only [slotsZ, zlAt, vs0, resL, at2, eq_self, Nat.reduceEqDiff, reduceIte, Nat.reduceSub, Nat.reduceAdd, List.cons_append, List.nil_append]
      all_goals rfl
    · intro gh X; conv => lhs; simp only [slotsZ, zlAt, vs0, resL, at2, eq_self, Nat.reduceEqDiff, reduceIte, Nat.reduceSub, Nat.reduceAdd, List.cons_append, List.nil_append]
      all_goals rfl
    ·
      intro gh X K zq zc zq2 zc2 zb zv hK
      refine J.p (PR.move rfl) rfl ?_
      refine J.nilK ?_
      exact hK zq zc zq2 zc2 zb zv
    ·
      intro gh gh' h
      rfl
    apply GJ.st0 2 rfl
    · intro gh; conv => lhs; simp only [slotsZ, zlAt, vs0, resL, at2, eq_self, Nat.reduceEqDiff, reduceIte, Nat.reduceSub, Nat.reduceAdd, List.cons_append, List.nil_append]
      all_goals rfl
    · intro gh X; conv => lhs; simp only [slotsZ, zlAt, vs0, resL, at2, eq_self, Nat.reduceEqDiff, reduceIte, Nat.reduceSub, Nat.reduceAdd, List.cons_append, List.nil_append]
      all_goals rfl
    · intro gh X; conv => lhs; simp only [slotsZ, zlAt, vs0, resL, at2, eq_self, Nat.reduceEqDiff, reduceIte, Nat.reduceSub, Nat.reduceAdd, List.cons_append, List.nil_append]
      all_goals rfl
    ·
      intro gh X K zq zc zq2 zc2 zb zv hK
      refine J.p (PR.quo rfl rfl (by decide) (nw _ (by omega))) rfl ?_
      refine J.nilK ?_
      exact hK zq zc zq2 zc2 zb zv
    ·
      intro gh gh' h
      rfl
    apply GJ.st0 3 rfl
    · intro gh; conv => lhs; simp only [slotsZ, zlAt, vs0, resL, at2, eq_self, Nat.reduceEqDiff, reduceIte, Nat.reduceSub, Nat.reduceAdd, List.cons_append, List.nil_append]
      all_goals rfl
    · intro gh X; conv => lhs; simp only [slotsZ, zlAt, vs0, resL, at2, eq_self, Nat.reduceEqDiff, reduceIte, Nat.reduceSub, Nat.reduceAdd, List.cons_append, List.nil_append]
      all_goals rfl
    · intro gh X; conv => lhs; simp only [slotsZ, zlAt, vs0, resL, at2, eq_self, Nat.reduceEqDiff, reduceIte, Nat.reduceSub, Nat.reduceAdd, List.cons_append, List.nil_append]
      all_goals rfl
    ·
      intro gh X K zq zc zq2 zc2 zb zv hK
      refine J.call fn34 rfl rfl fun w hH => (hrec _ rfl (by omega) _ _ hH).mono ?_
      rintro _ w ⟨rfl, hH⟩
      refine ⟨_, rfl, fun a hF => J.of hF hH ?_⟩
      refine J.nilK ?_
      exact hK zq zc zq2 zc2 zb zv
    ·
      intro gh gh' h
      rfl
    apply GJ.st0 4 rfl
    · intro gh; conv => lhs; simp only [slotsZ, zlAt, vs0, resL, at2, eq_self, Nat.reduceEqDiff, reduceIte, Nat.reduceSub, Nat.reduceAdd, List.cons_append, List.nil_append]
      all_goals rfl
    · intro gh X; conv => lhs; simp only [slotsZ, zlAt, vs0, resL, at2, eq_self, Nat.reduceEqDiff, reduceIte, Nat.reduceSub, Nat.reduceAdd, List.cons_append, List.nil_append]
      all_goals rfl
    · intro gh X; conv => lhs; simp only [slotsZ, zlAt, vs0, resL, at2, eq_self, Nat.reduceEqDiff, reduceIte, Nat.reduceSub, Nat.reduceAdd, List.cons_append, List.nil_append]
      all_goals rfl
    ·
      intro gh X K zq zc zq2 zc2 zb zv hK
      refine J.p (PR.move rfl) rfl ?_
      refine J.nilK ?_
      exact hK zq zc zq2 zc2 zb zv
    ·
      intro gh gh' h
      rfl
    apply GJ.st0 5 rfl
    · intro gh; conv => lhs; simp only [slotsZ, zlAt, vs0, resL, at2, eq_self, Nat.reduceEqDiff, reduceIte, Nat.reduceSub, Nat.reduceAdd, List.cons_append, List.nil_append]
      all_goals rfl
    · intro gh X; conv => lhs; simp only [slotsZ, zlAt, vs0, resL, at2, eq_self, Nat.reduceEqDiff, reduceIte, Nat.reduceSub, Nat.reduceAdd, List.cons_append, List.nil_append]
      all_goals rfl
    · intro gh X; conv => lhs; simp only [slotsZ, zlAt, vs0, resL, at2, eq_self, Nat.reduceEqDiff, reduceIte, Nat.reduceSub, Nat.reduceAdd, List.cons_append, List.nil_append]
      all_goals rfl
    ·
      intro gh X K zq zc zq2 zc2 zb zv hK
      refine J.p (PR.rem rfl rfl (by decide) rfl) rfl ?_
      refine J.nilK ?_
      exact hK zq zc zq2 zc2 zb zv
    ·
      intro gh gh' h
      rfl
    apply GJ.st0 6 rfl
    · intro gh; conv => lhs; simp only [slotsZ, zlAt, vs0, resL, at2, eq_self, Nat.reduceEqDiff, reduceIte, Nat.reduceSub, Nat.reduceAdd, List.cons_append, List.nil_append]
      all_goals rfl
    · intro gh X; conv => lhs; simp only [slotsZ, zlAt, vs0, resL, at2, eq_self, Nat.reduceEqDiff, reduceIte, Nat.reduceSub, Nat.reduceAdd, List.cons_append, List.nil_append]
      all_goals rfl
    · intro gh X; conv => lhs; simp only [slotsZ, zlAt, vs0, resL, at2, eq_self, Nat.reduceEqDiff, reduceIte, Nat.reduceSub, Nat.reduceAdd, List.cons_append, List.nil_append]
      all_goals rfl
    ·
      intro gh X K zq zc zq2 zc2 zb zv hK
      refine J.p (PR.add rfl rfl (by first | exact nw _ (by omega) | rfl)) rfl ?_
      refine J.nilK ?_
      exact hK zq zc zq2 zc2 zb zv
    ·
      intro gh gh' h
      rfl
    apply GJ.st0 7 rfl
    · intro gh; conv => lhs; simp only [slotsZ, zlAt, vs0, resL, at2, eq_self, Nat.reduceEqDiff, reduceIte, Nat.reduceSub, Nat.reduceAdd, List.cons_append, List.nil_append]
      all_goals rfl
    · intro gh X; conv => lhs; simp only [slotsZ, zlAt, vs0, resL, at2, eq_self, Nat.reduceEqDiff, reduceIte, Nat.reduceSub, Nat.reduceAdd, List.cons_append, List.nil_append]
      all_goals rfl
    · intro gh X; conv => lhs; simp only [slotsZ, zlAt, vs0, resL, at2, eq_self, Nat.reduceEqDiff, reduceIte, Nat.reduceSub, Nat.reduceAdd, List.cons_append, List.nil_append]
      all_goals rfl
    ·
      intro gh X K zq zc zq2 zc2 zb zv hK
      refine J.p (PR.conv u2 u5 rfl (su8_id (by omega))) rfl ?_
      refine J.nilK ?_
      exact hK zq zc zq2 zc2 zb zv
    ·
      intro gh gh' h
      rfl
    apply GJ.st1 8 rfl
    · intro gh; conv => lhs; simp only [slotsZ, zlAt, vs0, resL, at2, eq_self, Nat.reduceEqDiff, reduceIte, Nat.reduceSub, Nat.reduceAdd, List.cons_append, List.nil_append]
      all_goals rfl
    · intro gh X; conv => lhs; simp only [slotsZ, zlAt, vs0, resL, at2, eq_self, Nat.reduceEqDiff, reduceIte, Nat.reduceSub, Nat.reduceAdd, List.cons_append, List.nil_append]
      all_goals rfl
    · intro gh X; conv => lhs; simp only [slotsZ, zlAt, vs0, resL, at2, eq_self, Nat.reduceEqDiff, reduceIte, Nat.reduceSub, Nat.reduceAdd, List.cons_append, List.nil_append]
      all_goals rfl
    ·
      intro gh X K zq zc zq2 zc2 zb zv hK
      refine J.mk (MK.lit1S u83 ze5 sz5 rfl rfl) rfl fun qo17 co17 => ?_
      refine J.nilK ?_
      exact hK qo17 co17 zq2 zc2 zb zv
    ·
      intro gh gh' h
      refine ⟨?_, ?_⟩ <;> rfl
    apply GJ.st0 9 rfl
    · intro gh; conv => lhs; simp only [slotsZ, zlAt, vs0, resL, at2, eq_self, Nat.reduceEqDiff, reduceIte, Nat.reduceSub, Nat.reduceAdd, List.cons_append, List.nil_append]
      all_goals rfl
    · intro gh X; conv => lhs; simp only [slotsZ, zlAt, vs0, resL, at2, eq_self, Nat.reduceEqDiff, reduceIte, Nat.reduceSub, Nat.reduceAdd, List.cons_append, List.nil_append]
      all_goals rfl
    · intro gh X; conv => lhs; simp only [slotsZ, zlAt, vs0, resL, at2, eq_self, Nat.reduceEqDiff, reduceIte, Nat.reduceSub, Nat.reduceAdd, List.cons_append, List.nil_append]
      all_goals rfl
    ·
      intro gh X K zq zc zq2 zc2 zb zv hK
      refine J.p (PR.str1 u83 u5 u9 rfl At.z (by omega)) rfl ?_
      refine J.nilK ?_
      exact hK zq zc zq2 zc2 zb zv
    ·
      intro gh gh' h
      first | simp only [h 7 rfl] | rfl
    apply GJ.st0 10 rfl
    · intro gh; conv => lhs; simp only [slotsZ, zlAt, vs0, resL, at2, eq_self, Nat.reduceEqDiff, reduceIte, Nat.reduceSub, Nat.reduceAdd, List.cons_append, List.nil_append]
      all_goals rfl
    · intro gh X; conv => lhs; simp only [slotsZ, zlAt, vs0, resL, at2, eq_self, Nat.reduceEqDiff, reduceIte, Nat.reduceSub, Nat.reduceAdd, List.cons_append, List.nil_append]
      all_goals rfl
    · intro gh X; conv => lhs; simp only [slotsZ, zlAt, vs0, resL, at2, eq_self, Nat.reduceEqDiff, reduceIte, Nat.reduceSub, Nat.reduceAdd, List.cons_append, List.nil_append]
      all_goals rfl
    ·
      intro gh X K zq zc zq2 zc2 zb zv hK
      refine J.p (PR.strAdd rfl rfl (by simp only [List.length_append, List.length_cons, List.length_nil] at *; omega)) rfl ?_
      refine J.nilK ?_
      exact hK zq zc zq2 zc2 zb zv
    ·
      intro gh gh' h
      first | simp only [h 7 rfl] | rfl
    apply GJ.st0 11 rfl
    · intro gh; conv => lhs; simp only [slotsZ, zlAt, vs0, resL, at2, eq_self, Nat.reduceEqDiff, reduceIte, Nat.reduceSub, Nat.reduceAdd, List.cons_append, List.nil_append]
      all_goals rfl
    · intro gh X; conv => lhs; simp only [slotsZ, zlAt, vs0, resL, at2, eq_self, Nat.reduceEqDiff, reduceIte, Nat.reduceSub, Nat.reduceAdd, List.cons_append, List.nil_append]
      all_goals rfl
    · intro gh X; conv => lhs; simp only [slotsZ, zlAt, vs0, resL, at2, eq_self, Nat.reduceEqDiff, reduceIte, Nat.reduceSub, Nat.reduceAdd, List.cons_append, List.nil_append]
      all_goals rfl
    ·
      intro gh X K zq zc zq2 zc2 zb zv hK
      refine J.p (PR.assign rfl) rfl ?_
      refine J.nilK ?_
      exact hK zq zc zq2 zc2 zb zv
    ·
      intro gh gh' h
      first | simp only [h 7 rfl] | rfl
    apply GJ.close [0, 1, 2, 3, 4, 5, 6, 7, 8, 9, 10] [0, 1, 2, 3, 4, 5, 6, 7, 8, 9, 10] foll0 rfl rfl rfl (by rfl)
    · intro gh; conv => lhs; simp only [slotsZ, zlAt, vs0, resL, at2, eq_self, Nat.reduceEqDiff, reduceIte, Nat.reduceSub, Nat.reduceAdd, List.cons_append, List.nil_append]
      all_goals rfl
    · intro gh; conv => lhs; simp only [slotsZ, zlAt, vs0, resL, at2, eq_self, Nat.reduceEqDiff, reduceIte, Nat.reduceSub, Nat.reduceAdd, List.cons_append, List.nil_append]
      all_goals rfl
    intro gh
    generalize (gh 7).c = co17
    generalize (gh 7).q = qo17
    clear gh
    refine EJ.thenN (hK5 ?_)
    refine CJ.ret ?_
    refine EJ.ret1 rfl (Res.tmp rfl) fun w hH => ?_
    replace hH := hH.tail
    exact ⟨by rw [decL_big hx.1 (by omega)], hH⟩
theorem l01Dec_n {B : World} {H0 H : HP} : ∀ (n : Nat) (x : Int), x.toNat ≤ n → 0 ≤ x ∧ x ≤ 9223372036854775807 → ∀ (L : List SA) (w : World), Hp B H0 H L w → Calls Tryd.prog 34 [.int .i64 x].toArray w fun r w' => r = .returned (sV (decL x)) ∧ Hp B H0 H L w'
  | 0, x, h, hx, L, w, hH => l01DecX_c hx (fun y _ h10 => by omega) hH
  | n + 1, x, h, hx, L, w, hH => l01DecX_c hx (fun y hy h10 L w hH => by
      have hq0 : 0 ≤ x.tdiv 10 ∧ x.tdiv 10 * 10 ≤ x := by rw [Int.tdiv_eq_ediv_of_nonneg hx.1]; omega
      exact l01Dec_n n y (by omega) (by omega) L w hH) hH
theorem l01Dec_c {B : World} {H0 H : HP} {L : List SA} {w : World} {x : Int} (hx : 0 ≤ x ∧ x ≤ 9223372036854775807) (hH : Hp B H0 H L w) : Calls Tryd.prog 34 [.int .i64 x].toArray w fun r w' => r = .returned (sV (decL x)) ∧ Hp B H0 H L w' := l01Dec_n _ x (Nat.le_refl _) hx L w hH
theorem vS {a b : List UInt8} (h : a = b) : some (sV a) = some (sV b) := by rw [h]
theorem preT_p {ts : List Term} {k : Nat} (h : 0 < k) : preT ts k ++ [43] ++ decL (tm ts k).fac ++ [42] ++ nameT (tm ts k).mono = preT ts (k + 1) := by
  simp only [preT, termT]
  rw [if_pos h]
  simp only [List.append_assoc]
theorem preT_z {ts : List Term} {k : Nat} (h : ¬ 0 < k) : preT ts k ++ decL (tm ts k).fac ++ [42] ++ nameT (tm ts k).mono = preT ts (k + 1) := by
  simp only [preT, termT]
  rw [if_neg h]
  simp only [List.append_assoc]
def fmT (ds : List Int) (ts : List Term) : List UInt8 := if isDeg ds && isForm ds ts then textT ts else []
def fmC (ds : List Int) (ts : List Term) : Int := if isDeg ds && isForm ds ts then 0 else 1
theorem fm_yes {ds : List Int} {ts : List Term} (h : (isDeg ds && isForm ds ts) = true) : fmT ds ts = textT ts ∧ fmC ds ts = 0 := by
  unfold fmT fmC
  rw [if_pos h, if_pos h]
  exact ⟨rfl, rfl⟩
theorem fm_no {ds : List Int} {ts : List Term} (h : (isDeg ds && isForm ds ts) = false) : fmT ds ts = [] ∧ fmC ds ts = 1 := by
  unfold fmT fmC
  rw [h]
  exact ⟨rfl, rfl⟩
theorem form_fac {ds : List Int} {ts : List Term} (h : (isDeg ds && isForm ds ts) = true) : ts.length ≤ 400 ∧ ∀ i, i < ts.length → 0 ≤ (tm ts i).fac := by
  have h1 := (Bool.and_eq_true_iff.1 h).2
  unfold isForm at h1
  obtain ⟨h2, h3⟩ := Bool.and_eq_true_iff.1 h1
  refine ⟨of_decide_eq_true h2, fun i hi => ?_⟩
  have h4 := List.all_eq_true.1 h3 i (List.mem_range.2 hi)
  unfold goodAt at h4
  simp only [Bool.and_eq_true, decide_eq_true_eq] at h4
  omega

set_option maxHeartbeats 2000000 in
set_option maxRecDepth 10000 in
theorem l01Name_c {B : World} {H0 H : HP} {L : List SA} {w : World} {m : List Int}  (hm : Mono m) (hH : Hp B H0 H L w) :
    Calls Tryd.prog 35 [.agg (bytesC m).toArray].toArray w fun e w' => e = .returned (sV (nameT m)) ∧ Hp B H0 H L w' := by
  refine CJ.enter Tryd.func35 rfl 34 rfl rfl [(0, .agg (bytesC m).toArray)] rfl hH ?_
  have hml := hm.len
  clear hH
  have hmb := hm.bd
  have hml9 := fun k => monT_len hmb k
  refine CJ.seq fun _ hK1 _ => ?_
  refine CJ.region ?_
  refine J.box rfl rfl rfl fun g1 => ?_
  refine J.p (PR.assign rfl) rfl ?_
  refine J.nil ?_
  refine EJ.thenN (hK1 ?_)
  refine CJ.seq fun _ hK2 _ => ?_
  refine CJ.region ?_
  refine J.p (PR.assign rfl) rfl ?_
  refine J.nil ?_
  refine EJ.thenN (hK2 ?_)
  refine CJ.seq fun _ hK3 _ => ?_
  refine CJ.seq fun _ hK4 _ => ?_
  refine CJ.region ?_
  refine J.p (PR.assign rfl) rfl ?_
  refine J.nil ?_
  refine EJ.thenN (hK4 ?_)
  refine CJ.block ?_
  refine CJ.loopU (σ := Nat) (fun (i : Nat) => [(4, .int .i64 (i : Int)), (3, sV (monT m i))]) (fun (i : Nat) => H) (fun (i : Nat) => obj g1 (.cells (bytesC m).toArray 64 (0, 0)) :: L) (fun (i : Nat) => i ≤ 8) (fun (i : Nat) => 8 - i) 0 (by omega) ⟨rfl, ⟨rfl, trivial⟩⟩ rfl rfl ?_
  rintro i hi _ hAg0
  have hli := hml9 i
  have hmi := hmb i
  have hdl := decL_len (n := m.getD i 0) hmi.1 (by omega)
  refine CJ.seq fun _ hK5 _ => ?_
  refine CJ.seq fun _ hK6 _ => ?_
  refine CJ.region ?_
  refine J.p (PR.move rfl) rfl ?_
  refine J.p (PR.lss rfl rfl) rfl ?_
  refine J.nil ?_
  refine EJ.thenN (hK6 ?_)
  refine CJ.condD rfl (fun hc6 => ?_) (fun hc6 => ?_)
  ·
    refine CJ.skip ?_
    refine EJ.thenN (hK5 ?_)
    refine CJ.seq fun _ hK7 _ => ?_
    refine CJ.block ?_
    refine CJ.seq fun _ hK8 _ => ?_
    refine CJ.seq fun _ hK9 _ => ?_
    refine CJ.region ?_
    refine J.p (PR.move rfl) rfl ?_
    refine J.p (PR.idxA1 u64 sz5 rfl rfl rfl (by omega)) rfl ?_
    refine J.p (PR.load rfl At.z (by first | exact bytesC_get (by simp [*]; omega) | exact intsC_get (by simp [*]; omega)) pl5) rfl ?_
    refine J.p (PR.gtr rfl rfl) rfl ?_
    refine J.nil ?_
    refine EJ.thenN (hK9 ?_)
    refine CJ.condD rfl (fun h12 => ?_) (fun h12 => ?_)
    ·
      refine CJ.region ?_
      refine J.p (PR.move rfl) rfl ?_
      refine J.p (PR.move rfl) rfl ?_
      refine J.p (PR.add rfl rfl (by first | exact nw _ (by omega) | rfl)) rfl ?_
      refine J.p (PR.conv u3 u5 rfl (su8_id (by omega))) rfl ?_
      refine J.mk (MK.lit1S u83 ze5 sz5 rfl rfl) rfl fun qo17 co17 => ?_
      refine J.p (PR.str1 u83 u5 u9 rfl At.z (by omega)) rfl ?_
      refine J.p (PR.strAdd rfl rfl (by first | omega | (simp only [List.length_append, List.length_singleton]; omega))) rfl ?_
      refine J.p (PR.assign rfl) rfl ?_
      refine J.nil ?_
      refine EJ.thenN (hK8 ?_)
      refine CJ.seq fun _ hK10 _ => ?_
      refine CJ.region ?_
      refine J.p (PR.move rfl) rfl ?_
      refine J.p (PR.idxA1 u64 sz5 rfl rfl rfl (by omega)) rfl ?_
      refine J.p (PR.load rfl (.s .z) (by first | exact bytesC_get (by simp [*]; omega) | exact intsC_get (by simp [*]; omega)) pl5) rfl ?_
      refine J.p (PR.gtr rfl rfl) rfl ?_
      refine J.nil ?_
      refine EJ.thenN (hK10 ?_)
      refine CJ.condD rfl (fun h23 => ?_) (fun h23 => ?_)
      ·
        refine CJ.region ?_
        refine J.p (PR.move rfl) rfl ?_
        refine J.p (PR.move rfl) rfl ?_
        refine J.p (PR.idxA1 u64 sz5 rfl rfl rfl (by omega)) rfl ?_
        refine J.p (PR.load rfl (.s .z) (by first | exact bytesC_get (by simp [*]; omega) | exact intsC_get (by simp [*]; omega)) pl5) rfl ?_
        refine J.p (PR.conv u5 u2 rfl (by first | exact nw _ (by omega) | rfl)) rfl ?_
        refine J.call fn34 rfl rfl fun w hH => (l01Dec_c (by omega) hH).mono ?_
        rintro _ w ⟨rfl, hH⟩
        refine ⟨_, rfl, fun a hF => J.of hF hH ?_⟩
        refine J.p (PR.strAdd rfl rfl (by first | omega | (simp only [List.length_append, List.length_singleton]; omega))) rfl ?_
        refine J.p (PR.assign rfl) rfl ?_
        refine J.nil ?_
        refine EJ.inN ?_
        refine EJ.thenN (hK7 ?_)
        refine CJ.region ?_
        refine J.p (PR.move rfl) rfl ?_
        refine J.p (PR.add rfl rfl (by first | exact nw _ (by omega) | rfl)) rfl ?_
        refine J.p (PR.assign rfl) rfl ?_
        refine J.nil ?_
        refine EJ.thenN ?_
        refine EJ.drop .z ?_
        exact hAg0 (i + 1) (by omega) (by omega) 31 rfl rfl ⟨rfl, ⟨(vS (monT_yy h12 h23)), trivial⟩⟩ rfl rfl
      ·
        refine CJ.skip ?_
        refine EJ.inN ?_
        refine EJ.thenN (hK7 ?_)
        refine CJ.region ?_
        refine J.p (PR.move rfl) rfl ?_
        refine J.p (PR.add rfl rfl (by first | exact nw _ (by omega) | rfl)) rfl ?_
        refine J.p (PR.assign rfl) rfl ?_
        refine J.nil ?_
        refine EJ.thenN ?_
        refine EJ.drop .z ?_
        exact hAg0 (i + 1) (by omega) (by omega) 23 rfl rfl ⟨rfl, ⟨(vS (monT_yn h12 h23)), trivial⟩⟩ rfl rfl
    ·
      refine CJ.skip ?_
      refine EJ.thenN (hK8 ?_)
      refine CJ.seq fun _ hK11 _ => ?_
      refine CJ.region ?_
      refine J.p (PR.move rfl) rfl ?_
      refine J.p (PR.idxA1 u64 sz5 rfl rfl rfl (by omega)) rfl ?_
      refine J.p (PR.load rfl At.z (by first | exact bytesC_get (by simp [*]; omega) | exact intsC_get (by simp [*]; omega)) pl5) rfl ?_
      refine J.p (PR.gtr rfl rfl) rfl ?_
      refine J.nil ?_
      refine EJ.thenN (hK11 ?_)
      refine CJ.condD rfl (fun h23 => ?_) (fun h23 => ?_)
      ·
        refine CJ.region ?_
        refine J.p (PR.move rfl) rfl ?_
        refine J.p (PR.move rfl) rfl ?_
        refine J.p (PR.idxA1 u64 sz5 rfl rfl rfl (by omega)) rfl ?_
        refine J.p (PR.load rfl At.z (by first | exact bytesC_get (by simp [*]; omega) | exact intsC_get (by simp [*]; omega)) pl5) rfl ?_
        refine J.p (PR.conv u5 u2 rfl (by first | exact nw _ (by omega) | rfl)) rfl ?_
        refine J.call fn34 rfl rfl fun w hH => (l01Dec_c (by omega) hH).mono ?_
        rintro _ w ⟨rfl, hH⟩
        refine ⟨_, rfl, fun a hF => J.of hF hH ?_⟩
        refine J.p (PR.strAdd rfl rfl (by first | omega | (simp only [List.length_append, List.length_singleton]; omega))) rfl ?_
        refine J.p (PR.assign rfl) rfl ?_
        refine J.nil ?_
        refine EJ.inN ?_
        refine EJ.thenN (hK7 ?_)
        refine CJ.region ?_
        refine J.p (PR.move rfl) rfl ?_
        refine J.p (PR.add rfl rfl (by first | exact nw _ (by omega) | rfl)) rfl ?_
        refine J.p (PR.assign rfl) rfl ?_
        refine J.nil ?_
        refine EJ.thenN ?_
        exact hAg0 (i + 1) (by omega) (by omega) 23 rfl rfl ⟨rfl, ⟨(by exfalso; omega), trivial⟩⟩ rfl rfl
      ·
        refine CJ.skip ?_
        refine EJ.inN ?_
        refine EJ.thenN (hK7 ?_)
        refine CJ.region ?_
        refine J.p (PR.move rfl) rfl ?_
        refine J.p (PR.add rfl rfl (by first | exact nw _ (by omega) | rfl)) rfl ?_
        refine J.p (PR.assign rfl) rfl ?_
        refine J.nil ?_
        refine EJ.thenN ?_
        exact hAg0 (i + 1) (by omega) (by omega) 15 rfl rfl ⟨rfl, ⟨(vS (monT_nn h12)), trivial⟩⟩ rfl rfl
  ·
    refine CJ.exit ?_
    refine EJ.thenE ?_
    refine EJ.thenE ?_
    refine EJ.inE ?_
    refine EJ.thenN (hK3 ?_)
    refine CJ.seq fun _ hK12 _ => ?_
    refine CJ.seq fun _ hK13 _ => ?_
    refine CJ.region ?_
    refine J.p (PR.move rfl) rfl ?_
    refine J.p (PR.strEql rfl rfl) rfl ?_
    refine J.nil ?_
    refine EJ.thenN (hK13 ?_)
    refine CJ.condD rfl (fun h32 => ?_) (fun h32 => ?_)
    ·
      refine CJ.seq fun _ hK14 _ => ?_
      refine CJ.region ?_
      refine J.p (PR.assign rfl) rfl ?_
      refine J.nil ?_
      refine EJ.thenN (hK14 ?_)
      refine CJ.ret ?_
      refine EJ.thenR ?_
      refine EJ.ret1 rfl (Res.tmp rfl) fun w hH => ?_
      replace hH := hH.tail
      obtain rfl : i = 8 := by omega
      exact ⟨by unfold nameT; rw [if_pos h32], hH⟩
    ·
      refine CJ.skip ?_
      refine EJ.thenN (hK12 ?_)
      refine CJ.seq fun _ hK15 _ => ?_
      refine CJ.region ?_
      refine J.p (PR.move rfl) rfl ?_
      refine J.p (PR.assign rfl) rfl ?_
      refine J.nil ?_
      refine EJ.thenN (hK15 ?_)
      refine CJ.ret ?_
      refine EJ.ret1 rfl (Res.tmp rfl) fun w hH => ?_
      replace hH := hH.tail
      obtain rfl : i = 8 := by omega
      exact ⟨by unfold nameT; rw [if_neg h32], hH⟩
set_option maxHeartbeats 4000000 in
set_option maxRecDepth 10000 in
theorem l01Text_c {B : World} {H0 H : HP} {L : List SA} {w : World} {qts : Option Addr} {cts : Nat} {ts : List Term}  (hts : Terms H qts ts) (hl : ts.length ≤ 400) (hf : ∀ i, i < ts.length → 0 ≤ (tm ts i).fac) (hH : Hp B H0 H L w) :
    Calls Tryd.prog 19 [.agg [.slice qts ts.length cts].toArray].toArray w fun e w' => e = .returned (sV (textT ts)) ∧ Hp B H0 H L w' := by
  refine CJ.enter Tryd.func19 rfl 39 rfl rfl [(0, .agg [.slice qts ts.length cts].toArray)] rfl hH ?_
  clear hH
  have hp9 := fun k (h : k ≤ ts.length) => preT_len hts.wfs hf h
  refine CJ.seq fun _ hK1 _ => ?_
  refine CJ.region ?_
  refine J.box rfl rfl rfl fun g1 => ?_
  refine J.p (PR.assign rfl) rfl ?_
  refine J.nil ?_
  refine EJ.thenN (hK1 ?_)
  refine CJ.seq fun _ hK2 _ => ?_
  refine CJ.seq fun _ hK3 _ => ?_
  refine CJ.region ?_
  refine J.p (PR.fldA u32 rfl sz30 rfl) rfl ?_
  refine J.p (PR.load rfl At.z rfl pl30) rfl ?_
  refine J.p (PR.lenSlice u30 rfl rfl) rfl ?_
  refine J.p (PR.eql rfl rfl) rfl ?_
  refine J.nil ?_
  refine EJ.thenN (hK3 ?_)
  refine CJ.condD rfl (fun h8 => ?_) (fun h8 => ?_)
  ·
    refine CJ.seq fun _ hK4 _ => ?_
    refine CJ.region ?_
    refine J.p (PR.assign rfl) rfl ?_
    refine J.nil ?_
    refine EJ.thenN (hK4 ?_)
    refine CJ.ret ?_
    refine EJ.thenR ?_
    refine EJ.ret1 rfl (Res.tmp rfl) fun w hH => ?_
    replace hH := hH.tail
    exact ⟨by unfold textT; rw [if_pos (by omega)], hH⟩
  ·
    refine CJ.skip ?_
    refine EJ.thenN (hK2 ?_)
    refine CJ.seq fun _ hK5 _ => ?_
    refine CJ.region ?_
    refine J.p (PR.assign rfl) rfl ?_
    refine J.nil ?_
    refine EJ.thenN (hK5 ?_)
    refine CJ.seq fun _ hK6 _ => ?_
    refine CJ.seq fun _ hK7 _ => ?_
    refine CJ.region ?_
    refine J.p (PR.assign rfl) rfl ?_
    refine J.nil ?_
    refine EJ.thenN (hK7 ?_)
    refine CJ.block ?_
    refine CJ.loopU (σ := Nat) (fun (i : Nat) => [(4, .int .i64 (i : Int)), (3, sV (preT ts i))]) (fun (i : Nat) => H) (fun (i : Nat) => obj g1 (.cells [.slice qts ts.length cts].toArray 32 (0, 0)) :: L) (fun (i : Nat) => i ≤ ts.length) (fun (i : Nat) => ts.length - i) 0 (by omega) ⟨rfl, ⟨rfl, trivial⟩⟩ rfl rfl ?_
    rintro i hi _ hAg0
    have hpl := hp9 i hi
    refine CJ.seq fun _ hK8 _ => ?_
    refine CJ.seq fun _ hK9 _ => ?_
    refine CJ.region ?_
    refine J.p (PR.move rfl) rfl ?_
    refine J.p (PR.fldA u32 rfl sz30 rfl) rfl ?_
    refine J.p (PR.load rfl At.z rfl pl30) rfl ?_
    refine J.p (PR.lenSlice u30 rfl rfl) rfl ?_
    refine J.p (PR.lss rfl rfl) rfl ?_
    refine J.nil ?_
    refine EJ.thenN (hK9 ?_)
    refine CJ.condD rfl (fun h13 => ?_) (fun h13 => ?_)
    ·
      have hil : i < ts.length := by omega
      have hfi := hf i hil
      have hmw := (hts.wf i hil)
      have hfu := hmw.fac.2
      have hdl := decL_len hfi hmw.fac.2
      have hnl := nameT_len hmw.mono.bd
      refine CJ.skip ?_
      refine EJ.thenN (hK8 ?_)
      refine CJ.seq fun _ hK10 _ => ?_
      refine CJ.block ?_
      refine CJ.seq fun _ hK11 _ => ?_
      refine CJ.seq fun _ hK12 _ => ?_
      refine CJ.region ?_
      refine J.p (PR.move rfl) rfl ?_
      refine J.p (PR.gtr rfl rfl) rfl ?_
      refine J.nil ?_
      refine EJ.thenN (hK12 ?_)
      refine CJ.condD rfl (fun h17 => ?_) (fun h17 => ?_)
      ·
        refine CJ.region ?_
        refine J.p (PR.move rfl) rfl ?_
        refine J.p (PR.strAdd rfl rfl (by first | omega | (simp only [List.length_append, List.length_singleton]; omega))) rfl ?_
        refine J.p (PR.assign rfl) rfl ?_
        refine J.nil ?_
        refine EJ.thenN (hK11 ?_)
        refine CJ.head [[], [], [1], [], [2, 3], [4], [5], [6], [0, 7], [8], [], [10], [], [11, 12], [13], [14], [15]] (by kernel_rfl) ?_
        refine HJ.op (fun gh => PR.move rfl) ?_
        refine HJ.op (fun gh => PR.fldA u32 rfl sz30 rfl) ?_
        refine HJ.op (fun gh => PR.load rfl At.z rfl pl30) ?_
        refine HJ.op (fun gh => PR.move rfl) ?_
        refine HJ.op (fun gh => PR.idx u30 sz66 rfl rfl rfl (by omega) hts.sm) ?_
        refine HJ.op (fun gh => PR.fldP u66 rfl sz2 rfl (hts.sm (i := i) (by omega))) ?_
        refine HJ.op (fun gh => PR.loadH rfl (hts.fac (by omega)) pl2) ?_
        refine HJ.call fn34 (fun gh => rfl) (fun w X hH => l01Dec_c (by omega) hH) ?_
        refine HJ.op (fun gh => PR.strAdd rfl rfl (by first | omega | (simp only [List.length_append, List.length_singleton]; omega))) ?_
        refine HJ.op (fun gh => PR.strAdd rfl rfl (by first | omega | (simp only [List.length_append, List.length_singleton]; omega))) ?_
        refine HJ.op (fun gh => PR.fldA u32 rfl sz30 rfl) ?_
        refine HJ.op (fun gh => PR.load rfl At.z rfl pl30) ?_
        refine HJ.op (fun gh => PR.move rfl) ?_
        refine HJ.op (fun gh => PR.idx u30 sz66 rfl rfl rfl (by omega) hts.sm) ?_
        refine HJ.op (fun gh => PR.fldP u66 rfl sz64 rfl (hts.sm (i := i) (by omega))) ?_
        refine HJ.op (fun gh => PR.loadHagg rfl (hts.mono (by omega)) (hts.sm (i := i) (by omega)) (by rw [bytesC_length, (hts.wf _ (by omega)).mono.len]; exact ag64)) ?_
        refine HJ.call fn35 (fun gh => rfl) (fun w X hH => l01Name_c (hts.wf i (by omega)).mono hH) ?_
        refine HJ.close 17 0 foll0 (by kernel_rfl) rfl rfl fun gh => ?_
        refine J.conv (us' := (20, _) :: (21, _) :: (22, _) :: (23, _) :: (24, _) :: (25, _) :: (26, _) :: (27, _) :: (28, _) :: (29, _) :: (30, _) :: (31, _) :: (32, _) :: (33, _) :: (34, _) :: (35, _) :: (36, _) :: _) (L' := _) rfl rfl ?_
        refine J.nil ?_
        refine EJ.still ?_
        refine JS.op (PR.strAdd rfl rfl (by first | omega | (simp only [List.length_append, List.length_singleton]; omega))) rfl ?_
        refine JS.op (PR.assign rfl) rfl ?_
        refine JS.nil ?_
        refine EJ.inN ?_
        refine EJ.thenN (hK10 ?_)
        refine CJ.region ?_
        refine J.p (PR.move rfl) rfl ?_
        refine J.p (PR.add rfl rfl (by first | exact nw _ (by omega) | rfl)) rfl ?_
        refine J.p (PR.assign rfl) rfl ?_
        refine J.nil ?_
        refine EJ.thenN ?_
        exact hAg0 (i + 1) (by omega) (by omega) 34 rfl rfl ⟨rfl, ⟨(vS (preT_p (by omega))), trivial⟩⟩ rfl rfl
      ·
        refine CJ.skip ?_
        refine EJ.thenN (hK11 ?_)
        refine CJ.head [[], [], [1], [], [2, 3], [4], [5], [6], [0, 7], [8], [], [10], [], [11, 12], [13], [14], [15]] (by kernel_rfl) ?_
        refine HJ.op (fun gh => PR.move rfl) ?_
        refine HJ.op (fun gh => PR.fldA u32 rfl sz30 rfl) ?_
        refine HJ.op (fun gh => PR.load rfl At.z rfl pl30) ?_
        refine HJ.op (fun gh => PR.move rfl) ?_
        refine HJ.op (fun gh => PR.idx u30 sz66 rfl rfl rfl (by omega) hts.sm) ?_
        refine HJ.op (fun gh => PR.fldP u66 rfl sz2 rfl (hts.sm (i := i) (by omega))) ?_
        refine HJ.op (fun gh => PR.loadH rfl (hts.fac (by omega)) pl2) ?_
        refine HJ.call fn34 (fun gh => rfl) (fun w X hH => l01Dec_c (by omega) hH) ?_
        refine HJ.op (fun gh => PR.strAdd rfl rfl (by first | omega | (simp only [List.length_append, List.length_singleton]; omega))) ?_
        refine HJ.op (fun gh => PR.strAdd rfl rfl (by first | omega | (simp only [List.length_append, List.length_singleton]; omega))) ?_
        refine HJ.op (fun gh => PR.fldA u32 rfl sz30 rfl) ?_
        refine HJ.op (fun gh => PR.load rfl At.z rfl pl30) ?_
        refine HJ.op (fun gh => PR.move rfl) ?_
        refine HJ.op (fun gh => PR.idx u30 sz66 rfl rfl rfl (by omega) hts.sm) ?_
        refine HJ.op (fun gh => PR.fldP u66 rfl sz64 rfl (hts.sm (i := i) (by omega))) ?_
        refine HJ.op (fun gh => PR.loadHagg rfl (hts.mono (by omega)) (hts.sm (i := i) (by omega)) (by rw [bytesC_length, (hts.wf _ (by omega)).mono.len]; exact ag64)) ?_
        refine HJ.call fn35 (fun gh => rfl) (fun w X hH => l01Name_c (hts.wf i (by omega)).mono hH) ?_
        refine HJ.close 17 0 foll0 (by kernel_rfl) rfl rfl fun gh => ?_
        refine J.conv (us' := (20, _) :: (21, _) :: (22, _) :: (23, _) :: (24, _) :: (25, _) :: (26, _) :: (27, _) :: (28, _) :: (29, _) :: (30, _) :: (31, _) :: (32, _) :: (33, _) :: (34, _) :: (35, _) :: (36, _) :: _) (L' := _) rfl rfl ?_
        refine J.nil ?_
        refine EJ.still ?_
        refine JS.op (PR.strAdd rfl rfl (by first | omega | (simp only [List.length_append, List.length_singleton]; omega))) rfl ?_
        refine JS.op (PR.assign rfl) rfl ?_
        refine JS.nil ?_
        refine EJ.inN ?_
        refine EJ.thenN (hK10 ?_)
        refine CJ.region ?_
        refine J.p (PR.move rfl) rfl ?_
        refine J.p (PR.add rfl rfl (by first | exact nw _ (by omega) | rfl)) rfl ?_
        refine J.p (PR.assign rfl) rfl ?_
        refine J.nil ?_
        refine EJ.thenN ?_
        exact hAg0 (i + 1) (by omega) (by omega) 31 rfl rfl ⟨rfl, ⟨(vS (preT_z (by omega))), trivial⟩⟩ rfl rfl
    ·
      refine CJ.exit ?_
      refine EJ.thenE ?_
      refine EJ.thenE ?_
      refine EJ.inE ?_
      refine EJ.thenN (hK6 ?_)
      refine CJ.seq fun _ hK13 _ => ?_
      refine CJ.region ?_
      refine J.p (PR.move rfl) rfl ?_
      refine J.p (PR.assign rfl) rfl ?_
      refine J.nil ?_
      refine EJ.thenN (hK13 ?_)
      refine CJ.ret ?_
      refine EJ.ret1 rfl (Res.tmp rfl) fun w hH => ?_
      replace hH := hH.tail
      obtain rfl : i = ts.length := by omega
      exact ⟨by rw [preT_end ts (by omega)], hH⟩
set_option maxRecDepth 10000 in
theorem sFormText_c {B : World} {H0 H : HP} {L : List SA} {w : World} {qds : Option Addr} {cds : Nat} {ds : List Int} {qts : Option Addr} {cts : Nat} {ts : List Term}  (hds : Ints H qds ds) (hts : Terms H qts ts) (hn : ds.length ≤ 1048576) (hlt : ts.length ≤ 9223372036854775807) (hH : Hp B H0 H L w) :
    Calls Tryd.prog 6 [.slice qds ds.length cds, .agg [.slice qts ts.length cts].toArray].toArray w fun e w' => e = .returned (.tuple #[sV (fmT ds ts), .int .i64 (fmC ds ts)]) ∧ Hp B H0 H L w' := by
  refine CJ.enter Tryd.func6 rfl 12 rfl rfl [(0, .slice qds ds.length cds), (1, .agg [.slice qts ts.length cts].toArray)] rfl hH ?_
  clear hH
  refine CJ.seq fun _ hK1 _ => ?_
  refine CJ.region ?_
  refine J.box rfl rfl rfl fun g3 => ?_
  refine J.p (PR.assign rfl) rfl ?_
  refine J.p (PR.assign rfl) rfl ?_
  refine J.nil ?_
  refine EJ.thenN (hK1 ?_)
  refine CJ.seq fun _ hK2 _ => ?_
  refine CJ.seq fun _ hK3 _ => ?_
  refine CJ.region ?_
  refine J.p (PR.move rfl) rfl ?_
  refine J.p (PR.loadAll rfl At.z (by simpa [*] using ag32)) rfl ?_
  refine J.call fn18 rfl rfl fun w hH => (sIsForm_c hds hts hn hlt hH).mono ?_
  rintro _ w ⟨rfl, hH⟩
  refine ⟨_, rfl, fun a hF => J.of hF hH ?_⟩
  refine J.p (PR.not rfl) rfl ?_
  refine J.nil ?_
  refine EJ.thenN (hK3 ?_)
  refine CJ.cond rfl (fun h9 => ?_) (fun h9 => ?_)
  ·
    refine CJ.seq fun _ hK4 _ => ?_
    refine CJ.region ?_
    refine J.p (PR.assign rfl) rfl ?_
    refine J.p (PR.assign rfl) rfl ?_
    refine J.nil ?_
    refine EJ.thenN (hK4 ?_)
    refine CJ.ret ?_
    refine EJ.thenR ?_
    refine EJ.ret2 rfl (Res.tmp rfl) (Res.tmp rfl) fun w hH => ?_
    replace hH := hH.tail
    obtain ⟨e1, e2⟩ := fm_no (ds := ds) (ts := ts) (nott h9)
    rw [e1, e2]
    exact ⟨rfl, hH⟩
  ·
    have hA9 : (isDeg ds && isForm ds ts) = true := notf h9
    obtain ⟨hl4, hf4⟩ := form_fac hA9
    refine CJ.skip ?_
    refine EJ.thenN (hK2 ?_)
    refine CJ.seq fun _ hK5 _ => ?_
    refine CJ.region ?_
    refine J.p (PR.loadAll rfl At.z (by simpa [*] using ag32)) rfl ?_
    refine J.call fn19 rfl rfl fun w hH => (l01Text_c hts hl4 hf4 hH).mono ?_
    rintro _ w ⟨rfl, hH⟩
    refine ⟨_, rfl, fun a hF => J.of hF hH ?_⟩
    refine J.p (PR.assign rfl) rfl ?_
    refine J.p (PR.assign rfl) rfl ?_
    refine J.nil ?_
    refine EJ.thenN (hK5 ?_)
    refine CJ.ret ?_
    refine EJ.ret2 rfl (Res.tmp rfl) (Res.tmp rfl) fun w hH => ?_
    replace hH := hH.tail
    obtain ⟨e1, e2⟩ := fm_yes hA9
    rw [e1, e2]
    exact ⟨rfl, hH⟩
end Go.Proofs.YtbjhllmcnfncdaaDoor.G
