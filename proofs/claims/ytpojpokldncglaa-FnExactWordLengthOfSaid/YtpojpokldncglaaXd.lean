/- The walks of sums: adding. No condition. -/
import Derived.Test.YtpojpokldncglaaGMap
import Derived.Test.YtpojpokldncglaaProg
import Derived.Test.YtpojpokldncglaaWa
import Derived.Test.YtpojpokldncglaaWb
import Derived.Test.YtpojpokldncglaaWc
import Derived.Test.YtpojpokldncglaaWd
import Derived.Test.YtpojpokldncglaaWe
import Derived.Test.YtpojpokldncglaaWf
import Derived.Test.YtpojpokldncglaaWg
import Derived.Test.YtpojpokldncglaaWh
import Derived.Test.YtpojpokldncglaaWi
import Derived.Test.YtpojpokldncglaaWj
import Derived.Test.YtpojpokldncglaaWk
import Derived.Test.YtpojpokldncglaaWl
import Derived.Test.YtpojpokldncglaaWm
import Derived.Test.YtpojpokldncglaaWn
import Derived.Test.YtpojpokldncglaaWo
import Derived.Test.YtpojpokldncglaaWp
import Derived.Test.YtpojpokldncglaaXa
import Derived.Test.YtpojpokldncglaaXb
import Derived.DeepKeys4
import Derived.Test.YtpojpokldncglaaXc
set_option linter.unusedVariables false
set_option linter.unusedSimpArgs false
namespace Go.Proofs.Ytpojpokldncglaa.G
open Go Go.RowKit
namespace Xd
theorem u107 : Try.prog.underlying 107 = some (TypeDesc.map 94 2) := by kernel_rfl
theorem u94 : Try.prog.underlying 94 = some (TypeDesc.array 8 3) := by kernel_rfl
theorem sz94 : Size Try.prog 94 8 := by unfold Size; kernel_rfl
theorem zv2 : ZeroV Try.prog 2 (.int .i64 0) := fun _ => by kernel_rfl
theorem ze94 : Zero Try.prog 94 [.int .i64 0, .int .i64 0, .int .i64 0, .int .i64 0, .int .i64 0, .int .i64 0, .int .i64 0, .int .i64 0] := by unfold Zero; kernel_rfl
theorem ag94 : Agg Try.prog 94 8 := ⟨_, u94, rfl, by kernel_rfl⟩
theorem fn147 : Fn Try.prog 147 := ⟨_, Try.func147, by kernel_rfl, rfl⟩
theorem fn175 : Fn Try.prog 175 := ⟨_, Try.func175, by kernel_rfl, rfl⟩
end Xd
open Xd
set_option maxRecDepth 10000 in
theorem field_c {B : World} {H0 H : HP} {L : List SA} {w : World} {x : Int}  (hx : -1000000000000 ≤ x ∧ x ≤ 1000000000000) (hH : Hp B H0 H L w) :
    Calls Try.prog 147 [.int .i64 x].toArray w fun e w' => e = .returned (.int .i64 (fld x)) ∧ Hp B H0 H L w' := by
  refine CJ.enter Try.func147 rfl 7 rfl rfl [(0, .int .i64 x)] rfl hH ?_
  clear hH
  have hb := tmod_bd x
  refine CJ.seq fun _ hK1 _ => ?_
  refine CJ.region ?_
  refine J.p (PR.assign rfl) rfl ?_
  refine J.nil ?_
  refine EJ.thenN (hK1 ?_)
  refine CJ.seq fun _ hK2 _ => ?_
  refine CJ.region ?_
  refine J.p (PR.move rfl) rfl ?_
  refine J.p (PR.rem rfl rfl (by decide) rfl) rfl ?_
  refine J.p (PR.add rfl rfl (by first | exact nw _ (by omega) | rfl)) rfl ?_
  refine J.p (PR.rem rfl rfl (by decide) rfl) rfl ?_
  refine J.p (PR.assign rfl) rfl ?_
  refine J.nil ?_
  refine EJ.thenN (hK2 ?_)
  refine CJ.ret ?_
  refine EJ.ret1 rfl (Res.tmp rfl) fun w hH => ?_
  exact ⟨rfl, hH⟩
set_option maxRecDepth 10000 in
theorem add_c {B : World} {H0 H : HP} {L : List SA} {w : World} {bs : Nat} {Ms : Int} {s : Sm} {Mp : Int} {p : List Int} {k : Int}  (ks : Sok Ms s) (hp : Pok Mp p) (hM : Ms ≤ 1000000) (hpM : Mp ≤ Ms) (hk : -1000000000 ≤ k ∧ k ≤ 1000000000) (hH : Hp B H0 H (osum bs s :: L) w) :
    Calls Try.prog 175 [.map (some bs), .agg (intsC p).toArray, .int .i64 k].toArray w fun e w' => e = .returned (.tuple #[]) ∧ Hp B H0 H (osum bs (addS s p k) :: L) w' := by
  refine CJ.enter Try.func175 rfl 20 rfl rfl [(0, .map (some bs)), (1, .agg (intsC p).toArray), (2, .int .i64 k)] rfl hH ?_
  clear hH
  have hp8 := hp.len
  have hc := cf_bd ks p
  refine CJ.seq fun _ hK1 _ => ?_
  refine CJ.region ?_
  refine J.box rfl rfl rfl fun g4 => ?_
  refine J.nil ?_
  refine EJ.thenN (hK1 ?_)
  refine CJ.seq fun _ hK2 _ => ?_
  refine CJ.region ?_
  refine J.p (PR.move rfl) rfl ?_
  refine J.p (PR.loadAll rfl At.z (by simpa [*] using ag94)) rfl ?_
  refine J.p (PR.sumO pwK u107 zv2 rfl (.s .z) rfl (pwOk_of hp (by omega))) rfl ?_
  refine J.p (PR.move rfl) rfl ?_
  refine J.p (PR.add rfl rfl (by first | exact nw _ (by omega) | rfl)) rfl ?_
  refine J.call fn147 rfl rfl fun w hH => (field_c (by omega) hH).mono ?_
  rintro _ w ⟨rfl, hH⟩
  refine ⟨_, rfl, fun a hF => J.of hF hH ?_⟩
  refine J.p (PR.assign rfl) rfl ?_
  refine J.nil ?_
  refine EJ.thenN (hK2 ?_)
  refine CJ.seq fun _ hK3 _ => ?_
  refine CJ.region ?_
  refine J.p (PR.move rfl) rfl ?_
  refine J.p (PR.neq rfl rfl) rfl ?_
  refine J.nil ?_
  refine EJ.thenN (hK3 ?_)
  refine CJ.condD rfl (fun h14 => ?_) (fun h14 => ?_)
  ·
    refine CJ.region ?_
    refine J.p (PR.move rfl) rfl ?_
    refine J.p (PR.loadAll rfl At.z (by simpa [*] using ag94)) rfl ?_
    refine J.p (PR.move rfl) rfl ?_
    refine J.putAdd pwK u107 rfl rfl rfl (pwOk_of hp (by omega)) ks (hp.mono hpM) rfl h14 (.s .z) ?_
    refine J.nil ?_
    refine EJ.ret0 rfl  fun w hH => ?_
    replace hH := hH.sublist (.cons _ (.cons_cons _ (List.Sublist.refl _)))
    exact ⟨rfl, hH⟩
  ·
    refine CJ.region ?_
    refine J.p (PR.move rfl) rfl ?_
    refine J.p (PR.loadAll rfl At.z (by simpa [*] using ag94)) rfl ?_
    refine J.delAdd pwK u107 rfl rfl (pwOk_of hp (by omega)) ks (hp.mono hpM) (Decidable.not_not.1 h14) (.s .z) ?_
    refine J.nil ?_
    refine EJ.ret0 rfl  fun w hH => ?_
    replace hH := hH.sublist (.cons _ (.cons_cons _ (List.Sublist.refl _)))
    exact ⟨rfl, hH⟩

theorem scl_mid {l1 l2 : Sm} {x : Pw × Int} {k : Int} : (scl (l1 ++ x :: l2) k).Perm ((x.1, (x.2 * k).tmod 10007) :: scl (l1 ++ l2) k) := by
  unfold scl
  exact (List.perm_middle).map _
theorem rot {α : Type} (a b : List α) (x : α) {l m : List α} (h : (a ++ l).Perm m) (h2 : l.Perm (x :: b)) : (a ++ [x] ++ b).Perm m := by
  rw [List.append_assoc]
  exact (List.Perm.append_left a h2.symm).trans h
theorem perm_nil {α : Type} {a l m : List α} (h : (a ++ l).Perm m) (h2 : l = []) : a.Perm m := by
  subst h2
  rwa [List.append_nil] at h

set_option maxRecDepth 10000 in
theorem addAll_c {B : World} {H0 H : HP} {L : List SA} {w : World} {bs : Nat} {Ms : Int} {s : Sm} {vt : Value} {Mt : Int} {t : Sm} {k : Int}  (ks : Sok Ms s) (ht : SumH H vt t) (kt : Sok Mt t) (hM : Ms ≤ 1000000) (htM : Mt ≤ Ms) (hk : 0 ≤ k ∧ k ≤ 10006) (hH : Hp B H0 H (osum bs s :: L) w) :
    Calls Try.prog 146 [.map (some bs), vt, .int .i64 k].toArray w fun e w' => e = .returned (.tuple #[]) ∧ Hp B H0 H (osum bs (acc s (scl t k)) :: L) w' := by
  refine CJ.enter Try.func146 rfl 22 rfl rfl [(0, .map (some bs)), (1, vt), (2, .int .i64 k)] rfl hH ?_
  clear hH
  obtain ⟨bt, est, clt, rfl, hbt, het⟩ := ht
  have ht : SumH H (.map (some bt)) t := ⟨bt, est, clt, rfl, hbt, het⟩
  refine CJ.seq fun _ hK1 _ => ?_
  refine CJ.region ?_
  refine J.p (PR.move rfl) rfl ?_
  refine J.range u107 rfl hbt het rfl fun r9 => ?_
  refine J.nil ?_
  refine EJ.thenN (hK1 ?_)
  refine CJ.block ?_
  refine CJ.loopU (σ := Option (Pw × Int) × Sm × Sm) (fun ⟨la, ls, dn⟩ => []) (fun ⟨la, ls, dn⟩ => H) (fun ⟨la, ls, dn⟩ => itr pwE (Value.int .i64) bt est clt r9 la ls :: osum bs (acc s dn) :: L) (fun ⟨la, ls, dn⟩ => (dn ++ scl ls k).Perm (scl t k) ∧ ∀ x ∈ ls, x ∈ t) (fun ⟨la, ls, dn⟩ => ls.length) (none, t, []) ⟨List.Perm.refl _, fun _ h => h⟩ trivial rfl rfl ?_
  rintro ⟨la, ls, dn⟩ hI _ hAg0
  have ksn : Sok Ms (acc s dn) := ks.acc fun x hx => (scl_pok kt k x (hI.1.mem_iff.1 (by simp [hx]))).mono htM
  refine CJ.seq fun _ hK2 _ => ?_
  refine CJ.region ?_
  refine J.next rfl hbt het (fun _ _ => At.z) rfl (fun hE10 => ?_) (fun nx10 la10 lb10 hL10 => ?_)
  ·
    refine J.p (PR.extract rfl rfl) rfl ?_
    refine J.nil ?_
    refine EJ.thenN (hK2 ?_)
    refine CJ.seq fun _ hK3 _ => ?_
    refine CJ.condF rfl ?_
    refine CJ.exit ?_
    refine EJ.thenE ?_
    refine EJ.thenE ?_
    refine EJ.inE ?_
    refine EJ.ret0 rfl  fun w hH => ?_
    replace hH := hH.sublist (.cons _ (.cons_cons _ (List.Sublist.refl _)))
    rw [acc_perm ks (fun x hx => (scl_pok kt k x ((perm_nil hI.1 (by rw [hE10]; rfl)).mem_iff.1 hx)).mono htM) (perm_nil hI.1 (by rw [hE10]; rfl))] at hH
    exact ⟨rfl, hH⟩
  ·
    subst hL10
    have hu := hI.2 nx10 (by simp)
    have hu8 := (kt.key nx10 hu).len
    have hv := kt.val nx10 hu
    have hm := mul_bd (a := nx10.2) (b := k) (A := 10006) (B := 10006) (by omega) hk
    have hb := tmod_bd (nx10.2 * k)
    refine J.p (PR.extract rfl rfl) rfl ?_
    refine J.nil ?_
    refine EJ.thenN (hK2 ?_)
    refine CJ.seq fun _ hK4 _ => ?_
    refine CJ.condT rfl ?_
    refine CJ.skip ?_
    refine EJ.thenN (hK4 ?_)
    refine CJ.block ?_
    refine CJ.seq fun _ hK5 _ => ?_
    refine CJ.region ?_
    refine J.p (PR.entry rfl hbt het At.z) rfl ?_
    refine J.p (PR.extract rfl rfl) rfl ?_
    refine J.p (PR.extract rfl rfl) rfl ?_
    refine J.alloc ze94 rfl fun g6 => ?_
    refine J.storeAll rfl rfl (by first | exact bytesC_one _ | exact intsC_one _ | exact Term.c_one _ | simp [Value.oneCell']) (by simpa [*] using sz94) (by simp [*]) At.z ?_
    refine J.p (PR.assign rfl) rfl ?_
    refine J.nil ?_
    refine EJ.thenN (hK5 ?_)
    refine CJ.region ?_
    refine J.p (PR.move rfl) rfl ?_
    refine J.p (PR.loadAll rfl At.z (by simpa [*] using ag94)) rfl ?_
    refine J.p (PR.move rfl) rfl ?_
    refine J.p (PR.move rfl) rfl ?_
    refine J.p (PR.mul rfl rfl (by first | exact nw _ (by omega) | rfl)) rfl ?_
    refine J.p (PR.rem rfl rfl (by decide) rfl) rfl ?_
    refine J.call fn175 rfl rfl fun w hH => (add_c ksn (kt.key nx10 hu) (by omega) (by omega) (by omega) (hH.front (.s (.s .z)))).mono ?_
    rintro _ w ⟨rfl, hH⟩
    refine ⟨_, rfl, fun a hF => J.of hF hH ?_⟩
    refine J.nil ?_
    refine EJ.inN ?_
    refine EJ.thenN ?_
    refine EJ.drop (.s .z) ?_
    refine EJ.front .z ?_
    refine EJ.front (.s .z) ?_
    exact hAg0 (some nx10, la10 ++ lb10, dn ++ [(nx10.1, (nx10.2 * k).tmod 10007)]) ⟨rot _ _ _ hI.1 scl_mid, fun x hx => hI.2 x (by simp at hx ⊢; rcases hx with h | h <;> simp [h])⟩ (by simp) 14 rfl rfl trivial rfl (by simp only [acc_one])
end Go.Proofs.Ytpojpokldncglaa.G
