/- The walk of the product of two sums. No condition. -/
import Derived.Test.YtpojpokldncglaaGMap
import Derived.Test.YtpojpokldncglaaProg
import Derived.Test.YtpojpokldncglaaWa
import Derived.Test.YtpojpokldncglaaWb
import Derived.Test.YtpojpokldncglaaWc
import Derived.Test.YtpojpokldncglaaWd
import Derived.Test.YtpojpokldncglaaWe
import Derived.Test.YtpojpokldncglaaWf
import Derived.Test.YtpojpokldncglaaWg
import Derived.Test.YtpojpokldncglaaWh
import Derived.Test.YtpojpokldncglaaWi
import Derived.Test.YtpojpokldncglaaWj
import Derived.Test.YtpojpokldncglaaWk
import Derived.Test.YtpojpokldncglaaWl
import Derived.Test.YtpojpokldncglaaWm
import Derived.Test.YtpojpokldncglaaWn
import Derived.Test.YtpojpokldncglaaWo
import Derived.Test.YtpojpokldncglaaWp
import Derived.Test.YtpojpokldncglaaXa
import Derived.Test.YtpojpokldncglaaXb
import Derived.DeepKeys4
import Derived.Test.YtpojpokldncglaaXc
import Derived.Test.YtpojpokldncglaaXd
import Derived.Test.YtpojpokldncglaaXe
set_option linter.unusedVariables false
set_option linter.unusedSimpArgs false
namespace Go.Proofs.Ytpojpokldncglaa.G
open Go Go.RowKit
namespace Xf
theorem u107 : Try.prog.underlying 107 = some (TypeDesc.map 94 2) := by kernel_rfl
theorem u94 : Try.prog.underlying 94 = some (TypeDesc.array 8 3) := by kernel_rfl
theorem sz94 : Size Try.prog 94 8 := by unfold Size; kernel_rfl
theorem ze94 : Zero Try.prog 94 [.int .i64 0, .int .i64 0, .int .i64 0, .int .i64 0, .int .i64 0, .int .i64 0, .int .i64 0, .int .i64 0] := by unfold Zero; kernel_rfl
theorem ag94 : Agg Try.prog 94 8 := ⟨_, u94, rfl, by kernel_rfl⟩
theorem fn174 : Fn Try.prog 174 := ⟨_, Try.func174, by kernel_rfl, rfl⟩
theorem fn175 : Fn Try.prog 175 := ⟨_, Try.func175, by kernel_rfl, rfl⟩
end Xf
open Xf

theorem prodP_pok {M N : Int} {ds p q : Pw} (hp : Pok M p) (hq : Pok N q) : Pok (M + N) (prodP ds p q) := by
  unfold prodP
  split
  · refine ⟨by simp, fun j => ?_⟩
    have h1 := hp.bd 0
    have h2 := hq.bd 0
    have : (List.replicate 8 (0 : Int)).getD j 0 = 0 := by
      rw [List.getD_eq_getElem?_getD, List.getElem?_replicate]
      split <;> rfl
    rw [this]
    omega
  · exact hp.add hq
theorem prodP_of {ds p q : Pw} (h : sgn ds p q ≠ 0) : prodP ds p q = addp p q := by
  unfold prodP
  unfold sgn at h
  split
  · rename_i hh
    rw [if_pos hh] at h
    exact absurd rfl h
  · rfl
theorem mul_sb {a b A B : Int} (h1 : -A ≤ a ∧ a ≤ A) (h2 : 0 ≤ b ∧ b ≤ B) : -(A * B) ≤ a * b ∧ a * b ≤ A * B := by
  have hA : 0 ≤ A := by omega
  have e1 : A * b ≤ A * B := Int.mul_le_mul_of_nonneg_left h2.2 hA
  have e2 : a * b ≤ A * b := Int.mul_le_mul_of_nonneg_right h1.2 h2.1
  have e3 : -A * b ≤ a * b := Int.mul_le_mul_of_nonneg_right h1.1 h2.1
  rw [Int.neg_mul] at e3
  omega
theorem mul1_some {ds : Pw} {x y : Pw × Int} {l1 l2 R : Sm} (h : sgn ds x.1 y.1 ≠ 0) : (mul1 ds x (l1 ++ y :: l2) ++ R).Perm ((addp x.1 y.1, (sgn ds x.1 y.1 * x.2 * y.2).tmod 10007) :: (mul1 ds x (l1 ++ l2) ++ R)) := by
  have := mul1_mid (ds := ds) (x := x) (y := y) (l1 := l1) (l2 := l2)
  rw [if_neg h] at this
  exact List.Perm.append_right R this
theorem mul1_zero {ds : Pw} {x y : Pw × Int} {l1 l2 R : Sm} (h : sgn ds x.1 y.1 = 0) : (mul1 ds x (l1 ++ y :: l2) ++ R).Perm (mul1 ds x (l1 ++ l2) ++ R) := by
  have := mul1_mid (ds := ds) (x := x) (y := y) (l1 := l1) (l2 := l2)
  rw [if_pos h] at this
  exact List.Perm.append_right R this
theorem perm_to {α : Type} {a l l' m : List α} (h : (a ++ l).Perm m) (h2 : l.Perm l') : (a ++ l').Perm m := (List.Perm.append_left a h2.symm).trans h

set_option maxHeartbeats 4000000 in
set_option maxRecDepth 10000 in
theorem times_c {B : World} {H0 H : HP} {L : List SA} {w : World} {vs : Value} {Ms : Int} {s : Sm} {qds : Option Addr} {cds : Nat} {ds : List Int} {vt : Value} {Mt : Int} {t : Sm}  (hs : SumH H vs s) (ks : Sok Ms s) (hds : Ints H qds ds) (ht : SumH H vt t) (kt : Sok Mt t) (hn : ds.length ≤ 8) (hd : ∀ j, 0 ≤ ds.getD j 0 ∧ ds.getD j 0 ≤ 12) (hM : Ms + Mt ≤ 1000000) (hH : Hp B H0 H L w) :
    Calls Try.prog 145 [vs, .slice qds ds.length cds, vt].toArray w fun e w' => ∃ b, e = .returned (.map (some b)) ∧ Hp B H0 H (osum b (timesS ds s t) :: L) w' := by
  refine CJ.enter Try.func145 rfl 48 rfl rfl [(0, vs), (1, .slice qds ds.length cds), (2, vt)] rfl hH ?_
  clear hH
  obtain ⟨bs, ess, cls, rfl, hbs, hes⟩ := hs
  have hs : SumH H (.map (some bs)) s := ⟨bs, ess, cls, rfl, hbs, hes⟩
  obtain ⟨bt, est, clt, rfl, hbt, het⟩ := ht
  have ht : SumH H (.map (some bt)) t := ⟨bt, est, clt, rfl, hbt, het⟩
  refine CJ.seq fun _ hK1 _ => ?_
  refine CJ.region ?_
  refine J.p (PR.assign rfl) rfl ?_
  refine J.nil ?_
  refine EJ.thenN (hK1 ?_)
  refine CJ.seq fun _ hK2 _ => ?_
  refine CJ.region ?_
  refine J.makeMap pwE (Value.int .i64) pwOk rfl fun bm14 => ?_
  refine J.p (PR.assign rfl) rfl ?_
  refine J.nil ?_
  refine EJ.thenN (hK2 ?_)
  refine CJ.seq fun _ hK3 _ => ?_
  refine CJ.seq fun _ hK4 _ => ?_
  refine CJ.region ?_
  refine J.p (PR.move rfl) rfl ?_
  refine J.range u107 rfl hbs hes rfl fun r16 => ?_
  refine J.nil ?_
  refine EJ.thenN (hK4 ?_)
  refine CJ.block ?_
  refine CJ.loopU (σ := Option (Pw × Int) × Sm × Sm) (fun ⟨la, ls, dn⟩ => []) (fun ⟨la, ls, dn⟩ => H) (fun ⟨la, ls, dn⟩ => itr pwE (Value.int .i64) bs ess cls r16 la ls :: osum bm14 (acc [] dn) :: L) (fun ⟨la, ls, dn⟩ => (dn ++ mulL ds ls t).Perm (mulL ds s t) ∧ ∀ x ∈ ls, x ∈ s) (fun ⟨la, ls, dn⟩ => ls.length) (none, s, []) ⟨List.Perm.refl _, fun _ h => h⟩ trivial rfl rfl ?_
  rintro ⟨la, ls, dn⟩ hI _ hAg0
  have k0 : Sok (Ms + Mt) (acc [] dn) := Sok.nil.acc fun x hx => mulL_pok ks kt x (hI.1.mem_iff.1 (by simp [hx]))
  refine CJ.seq fun _ hK5 _ => ?_
  refine CJ.region ?_
  refine J.next rfl hbs hes (fun _ _ => At.z) rfl (fun hE17 => ?_) (fun nx17 la17 lb17 hL17 => ?_)
  ·
    refine J.p (PR.extract rfl rfl) rfl ?_
    refine J.nil ?_
    refine EJ.thenN (hK5 ?_)
    refine CJ.seq fun _ hK6 _ => ?_
    refine CJ.condF rfl ?_
    refine CJ.exit ?_
    refine EJ.thenE ?_
    refine EJ.thenE ?_
    refine EJ.inE ?_
    refine EJ.thenN (hK3 ?_)
    refine CJ.seq fun _ hK7 _ => ?_
    refine CJ.region ?_
    refine J.p (PR.move rfl) rfl ?_
    refine J.p (PR.assign rfl) rfl ?_
    refine J.nil ?_
    refine EJ.thenN (hK7 ?_)
    refine CJ.ret ?_
    refine EJ.ret1 rfl (Res.tmp rfl) fun w hH => ?_
    replace hH := hH.sublist (.cons _ (.cons_cons _ (List.Sublist.refl _)))
    have hp9 := perm_nil hI.1 (by rw [hE17]; rfl)
    have e9 : acc [] dn = timesS ds s t := acc_perm Sok.nil (fun x hx => mulL_pok ks kt x (hp9.mem_iff.1 hx)) hp9
    rw [e9] at hH
    exact ⟨_, rfl, hH⟩
  ·
    subst hL17
    have hu := hI.2 nx17 (by simp)
    have hup := ks.key nx17 hu
    have hu8 := hup.len
    have hv := ks.val nx17 hu
    have hu0 := hup.bd 0
    refine J.p (PR.extract rfl rfl) rfl ?_
    refine J.nil ?_
    refine EJ.thenN (hK5 ?_)
    refine CJ.seq fun _ hK8 _ => ?_
    refine CJ.condT rfl ?_
    refine CJ.skip ?_
    refine EJ.thenN (hK8 ?_)
    refine CJ.block ?_
    refine CJ.seq fun _ hK9 _ => ?_
    refine CJ.region ?_
    refine J.p (PR.entry rfl hbs hes At.z) rfl ?_
    refine J.p (PR.extract rfl rfl) rfl ?_
    refine J.p (PR.extract rfl rfl) rfl ?_
    refine J.alloc ze94 rfl fun g8 => ?_
    refine J.storeAll rfl rfl (by first | exact bytesC_one _ | exact intsC_one _ | exact Term.c_one _ | simp [Value.oneCell']) (by simpa [*] using sz94) (by simp [*]) At.z ?_
    refine J.p (PR.assign rfl) rfl ?_
    refine J.nil ?_
    refine EJ.thenN (hK9 ?_)
    refine CJ.seq fun _ hK10 _ => ?_
    refine CJ.region ?_
    refine J.p (PR.move rfl) rfl ?_
    refine J.range u107 rfl hbt het rfl fun r23 => ?_
    refine J.nil ?_
    refine EJ.thenN (hK10 ?_)
    refine CJ.block ?_
    refine CJ.loopU (σ := Option (Pw × Int) × Sm × Sm) (fun ⟨la2, ls2, dn2⟩ => []) (fun ⟨la2, ls2, dn2⟩ => H) (fun ⟨la2, ls2, dn2⟩ => itr pwE (Value.int .i64) bt est clt r23 la2 ls2 :: obj g8 (.cells (intsC nx17.1).toArray 94 (0, 0)) :: itr pwE (Value.int .i64) bs ess cls r16 (some nx17) (la17 ++ lb17) :: osum bm14 (acc [] dn2) :: L) (fun ⟨la2, ls2, dn2⟩ => (dn2 ++ (mul1 ds nx17 ls2 ++ mulL ds (la17 ++ lb17) t)).Perm (mulL ds s t) ∧ ∀ x ∈ ls2, x ∈ t) (fun ⟨la2, ls2, dn2⟩ => ls2.length) (none, t, dn) ⟨perm_to hI.1 mulL_mid, fun _ h => h⟩ trivial rfl rfl ?_
    rintro ⟨la2, ls2, dn2⟩ hI2 _ hAg1
    have k1 : Sok (Ms + Mt) (acc [] dn2) := Sok.nil.acc fun x hx => mulL_pok ks kt x (hI2.1.mem_iff.1 (by simp [hx]))
    refine CJ.seq fun _ hK11 _ => ?_
    refine CJ.region ?_
    refine J.next rfl hbt het (fun _ _ => At.z) rfl (fun hE24 => ?_) (fun nx24 la24 lb24 hL24 => ?_)
    ·
      refine J.p (PR.extract rfl rfl) rfl ?_
      refine J.nil ?_
      refine EJ.thenN (hK11 ?_)
      refine CJ.seq fun _ hK12 _ => ?_
      refine CJ.condF rfl ?_
      refine CJ.exit ?_
      refine EJ.thenE ?_
      refine EJ.thenE ?_
      refine EJ.inE ?_
      refine EJ.inN ?_
      refine EJ.thenN ?_
      refine EJ.drop .z ?_
      refine EJ.drop .z ?_
      exact hAg0 (some nx17, la17 ++ lb17, dn2) ⟨by have h9 := hI2.1; rw [hE24] at h9; exact h9, fun x hx => hI.2 x (by simp at hx ⊢; rcases hx with h | h <;> simp [h])⟩ (by simp) 11 rfl rfl trivial rfl rfl
    ·
      subst hL24
      have hu2 := hI2.2 nx24 (by simp)
      have hup2 := kt.key nx24 hu2
      have hu82 := hup2.len
      have hv2 := kt.val nx24 hu2
      have hu02 := hup2.bd 0
      have sb : -1 ≤ sgn ds nx17.1 nx24.1 ∧ sgn ds nx17.1 nx24.1 ≤ 1 := by rcases sgn_cases ds nx17.1 nx24.1 with h | h | h <;> omega
      have sb1 := mul_sb (b := nx17.2) (B := 10006) sb (by omega)
      have sb2 := mul_sb (b := nx24.2) (B := 10006) sb1 (by omega)
      have sb3 := tmod_bd (sgn ds nx17.1 nx24.1 * nx17.2 * nx24.2)
      have pp8 := (prodP_pok (ds := ds) hup hup2).len
      refine J.p (PR.extract rfl rfl) rfl ?_
      refine J.nil ?_
      refine EJ.thenN (hK11 ?_)
      refine CJ.seq fun _ hK13 _ => ?_
      refine CJ.condT rfl ?_
      refine CJ.skip ?_
      refine EJ.thenN (hK13 ?_)
      refine CJ.block ?_
      refine CJ.seq fun _ hK14 _ => ?_
      refine CJ.region ?_
      refine J.p (PR.entry rfl hbt het At.z) rfl ?_
      refine J.p (PR.extract rfl rfl) rfl ?_
      refine J.p (PR.extract rfl rfl) rfl ?_
      refine J.alloc ze94 rfl fun g10 => ?_
      refine J.storeAll rfl rfl (by first | exact bytesC_one _ | exact intsC_one _ | exact Term.c_one _ | simp [Value.oneCell']) (by simpa [*] using sz94) (by simp [*]) At.z ?_
      refine J.p (PR.assign rfl) rfl ?_
      refine J.nil ?_
      refine EJ.thenN (hK14 ?_)
      refine CJ.seq fun _ hK15 _ => ?_
      refine CJ.region ?_
      refine J.p (PR.loadAll rfl (.s (.s .z)) (by simpa [*] using ag94)) rfl ?_
      refine J.p (PR.move rfl) rfl ?_
      refine J.p (PR.loadAll rfl At.z (by simpa [*] using ag94)) rfl ?_
      refine J.call fn174 rfl rfl fun w hH => (timesP_c hup hds hup2 hn hd (by omega) hH).mono ?_
      rintro _ w ⟨rfl, hH⟩
      refine ⟨_, rfl, fun a hF => J.of hF hH ?_⟩
      refine J.p (PR.move rfl) rfl ?_
      refine J.p (PR.extract rfl rfl) rfl ?_
      refine J.p (PR.extract rfl rfl) rfl ?_
      refine J.alloc ze94 rfl fun g12 => ?_
      refine J.storeAll rfl rfl (by first | exact bytesC_one _ | exact intsC_one _ | exact Term.c_one _ | simp [Value.oneCell']) (by simpa [*] using sz94) (by simp [*]) At.z ?_
      refine J.p (PR.assign rfl) rfl ?_
      refine J.nil ?_
      refine EJ.thenN (hK15 ?_)
      refine CJ.seq fun _ hK16 _ => ?_
      refine CJ.region ?_
      refine J.p (PR.move rfl) rfl ?_
      refine J.p (PR.neq rfl rfl) rfl ?_
      refine J.nil ?_
      refine EJ.thenN (hK16 ?_)
      refine CJ.condD rfl (fun h37 => ?_) (fun h37 => ?_)
      ·
        have e37 := prodP_of h37
        refine CJ.region ?_
        refine J.p (PR.move rfl) rfl ?_
        refine J.p (PR.loadAll rfl At.z (by simpa [*] using ag94)) rfl ?_
        refine J.p (PR.move rfl) rfl ?_
        refine J.p (PR.move rfl) rfl ?_
        refine J.p (PR.mul rfl rfl (by first | exact nw _ (by omega) | rfl)) rfl ?_
        refine J.p (PR.move rfl) rfl ?_
        refine J.p (PR.mul rfl rfl (by first | exact nw _ (by omega) | rfl)) rfl ?_
        refine J.p (PR.rem rfl rfl (by decide) rfl) rfl ?_
        refine J.call fn175 rfl rfl fun w hH => (add_c k1 (prodP_pok hup hup2) (by omega) (by omega) (by omega) (hH.front (.s (.s (.s (.s (.s .z))))))).mono ?_
        rintro _ w ⟨rfl, hH⟩
        refine ⟨_, rfl, fun a hF => J.of hF hH ?_⟩
        refine J.nil ?_
        refine EJ.inN ?_
        refine EJ.thenN ?_
        refine EJ.drop (.s .z) ?_
        refine EJ.drop (.s .z) ?_
        refine EJ.front .z ?_
        refine EJ.front (.s (.s (.s .z))) ?_
        refine EJ.front (.s (.s (.s .z))) ?_
        refine EJ.front (.s (.s (.s .z))) ?_
        exact hAg1 (some nx24, la24 ++ lb24, dn2 ++ [(addp nx17.1 nx24.1, (sgn ds nx17.1 nx24.1 * nx17.2 * nx24.2).tmod 10007)]) ⟨rot _ _ _ hI2.1 (mul1_some h37), fun x hx => hI2.2 x (by simp at hx ⊢; rcases hx with h | h <;> simp [h])⟩ (by simp) 27 rfl rfl trivial rfl (by simp only [acc_one, e37])
      ·
        have e37 : sgn ds nx17.1 nx24.1 = 0 := Decidable.not_not.1 h37
        refine CJ.skip ?_
        refine EJ.inN ?_
        refine EJ.thenN ?_
        refine EJ.drop .z ?_
        refine EJ.drop .z ?_
        exact hAg1 (some nx24, la24 ++ lb24, dn2) ⟨perm_to hI2.1 (mul1_zero e37), fun x hx => hI2.2 x (by simp at hx ⊢; rcases hx with h | h <;> simp [h])⟩ (by simp) 18 rfl rfl trivial rfl rfl
end Go.Proofs.Ytpojpokldncglaa.G
