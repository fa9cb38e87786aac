/- The row: the law answers true whatever the input, and the input reads as it did. No condition. -/
import Derived.Test.YtpojpokldncglaaRows
import Derived.Test.YtpojpokldncglaaProg
import Derived.WalkKit
import Derived.KernelRfl
import Derived.JoinedOf
import Derived.Maps.AppendAt
import Derived.Still
import Derived.ProofKit
import Derived.OpenShut
import Derived.StillTail
import Derived.Deep.Upon
import Derived.WalkSpells
import Derived.Maps.Range
import Derived.DeepKeys4
import Derived.ChangeOld
import Derived.Below
import Derived.SizedLaws
import Derived.Test.YtpojpokldncglaaPLtmg
set_option linter.unusedVariables false
set_option linter.unusedSimpArgs false
namespace Go.Proofs.Ytpojpokldncglaa.G
open Go Go.RowKit
namespace Qh
theorem u107 : Try.prog.underlying 107 = some (TypeDesc.map 94 2) := by kernel_rfl
theorem u193 : Try.prog.underlying 193 = some (TypeDesc.struct #[{ name := "from", type := 22, offset := 0, embedded := false, tag := "", pkgPath := "loop.example/g01219/impl", byteOffset := 0 }, { name := "to", type := 22, offset := 1, embedded := false, tag := "", pkgPath := "loop.example/g01219/impl", byteOffset := 24 }, { name := "images", type := 190, offset := 2, embedded := false, tag := "", pkgPath := "loop.example/g01219/impl", byteOffset := 48 }, { name := "known", type := 191, offset := 3, embedded := false, tag := "", pkgPath := "loop.example/g01219/impl", byteOffset := 72 }]) := by kernel_rfl
theorem u22 : Try.prog.underlying 22 = some (TypeDesc.slice 2) := by kernel_rfl
theorem u3 : Try.prog.underlying 3 = some (TypeDesc.int .i64) := by kernel_rfl
theorem u94 : Try.prog.underlying 94 = some (TypeDesc.array 8 3) := by kernel_rfl
theorem sz22 : Size Try.prog 22 1 := by unfold Size; kernel_rfl
theorem sz3 : Size Try.prog 3 1 := by unfold Size; kernel_rfl
theorem sz94 : Size Try.prog 94 8 := by unfold Size; kernel_rfl
theorem ze94 : Zero Try.prog 94 [.int .i64 0, .int .i64 0, .int .i64 0, .int .i64 0, .int .i64 0, .int .i64 0, .int .i64 0, .int .i64 0] := by unfold Zero; kernel_rfl
theorem pl22 : Plain Try.prog 22 := ⟨_, u22, rfl⟩
theorem pl3 : Plain Try.prog 3 := ⟨_, u3, rfl⟩
theorem fn145 : Fn Try.prog 145 := ⟨_, Try.func145, by kernel_rfl, rfl⟩
theorem fn146 : Fn Try.prog 146 := ⟨_, Try.func146, by kernel_rfl, rfl⟩
theorem fn185 : Fn Try.prog 185 := ⟨_, Try.func185, by kernel_rfl, rfl⟩
theorem fn186 : Fn Try.prog 186 := ⟨_, Try.func186, by kernel_rfl, rfl⟩
theorem foll0 : Try.prog.follows .mixedOrders = true := by kernel_rfl
end Qh
open Qh
theorem leadL_mid {ds : Pw} {ss : Nat → Sm} {n : Nat} {l1 l2 : Sm} {x : Pw × Int} : (leadL ds ss n (l1 ++ x :: l2)).Perm (scl (prS ds ss x.1 oneS n) x.2 ++ leadL ds ss n (l1 ++ l2)) := by
  have h : (leadL ds ss n (l1 ++ x :: l2)).Perm (leadL ds ss n (x :: (l1 ++ l2))) := (List.perm_middle).flatMap_right _
  exact h
set_option maxHeartbeats 8000000 in
set_option maxRecDepth 10000 in
theorem leadTo_c {B : World} {H0 H : HP} {L : List SA} {w : World} {bld kbld nld : Nat} {qldf qldt qldi : Option Addr} {cldf cldt cldi : Nat} {ldf ldt : List Int} {lds : Nat → Sm} {vs : Value} {Ms : Int} {s : Sm} {km : Nat} {kv : Vs} {ws : Pw} (pld0 : CellAt H bld 0 (.slice qldf ldf.length cldf)) (pld1 : CellAt H bld 1 (.slice qldt ldt.length cldt)) (pld2 : CellAt H bld 2 (.slice qldi nld cldi)) (pld3 : CellAt H bld 3 (.map (some kbld))) (hldf : Ints H qldf ldf) (hldt : Ints H qldt ldt) (hldi : ImR H qldi nld lds) (hs : SumH H vs s) (ks : Sok Ms s) (hL : Ld ldt ws lds ldf.length Ms s) (hnn : ldf.length = nld) (hn8 : nld ≤ 8) (hMs : 13 ≤ Ms ∧ Ms ≤ 255) (hH : Hp B H0 H (knw (kF ldt lds) kbld km kv :: L) w) :
    Calls Try.prog 182 [.pointer (some ⟨bld, 0, none⟩), vs].toArray w fun e w' => ∃ b m' vs', e = .returned (.map (some b)) ∧ Hp B H0 H (osum b (leadS ldt lds ldf.length s) :: knw (kF ldt lds) kbld m' vs' :: L) w' := by
  refine CJ.enter Try.func182 rfl 49 rfl rfl [(0, .pointer (some ⟨bld, 0, none⟩)), (1, vs)] rfl hH ?_
  clear hH
  obtain ⟨bs, ess, cls, rfl, hbs, hes⟩ := hs
  have hs : SumH H (.map (some bs)) s := ⟨bs, ess, cls, rfl, hbs, hes⟩
  refine CJ.seq fun _ hK1 _ => ?_
  refine CJ.region ?_
  refine J.p (PR.assign rfl) rfl ?_
  refine J.nil ?_
  refine EJ.thenN (hK1 ?_)
  refine CJ.seq fun _ hK2 _ => ?_
  refine CJ.region ?_
  refine J.makeMap pwE (Value.int .i64) pwOk rfl fun bm10 => ?_
  refine J.p (PR.assign rfl) rfl ?_
  refine J.nil ?_
  refine EJ.thenN (hK2 ?_)
  refine CJ.seq fun _ hK3 _ => ?_
  refine CJ.seq fun _ hK4 _ => ?_
  refine CJ.region ?_
  refine J.p (PR.move rfl) rfl ?_
  refine J.range u107 rfl hbs hes rfl fun r12 => ?_
  refine J.nil ?_
  refine EJ.thenN (hK4 ?_)
  refine CJ.block ?_
  refine CJ.loopU (σ := Option (Pw × Int) × Sm × Sm × Nat × Vs) (fun ⟨la, ls, dn, km1, kv1⟩ => []) (fun ⟨la, ls, dn, km1, kv1⟩ => H) (fun ⟨la, ls, dn, km1, kv1⟩ => itr pwE (Value.int .i64) bs ess cls r12 la ls :: osum bm10 (acc [] dn) :: knw (kF ldt lds) kbld km1 kv1 :: L) (fun ⟨la, ls, dn, km1, kv1⟩ => (dn ++ leadL ldt lds ldf.length ls).Perm (leadL ldt lds ldf.length s) ∧ ∀ x ∈ ls, x ∈ s) (fun ⟨la, ls, dn, km1, kv1⟩ => ls.length) (none, s, [], km, kv) ⟨List.Perm.refl _, fun _ h => h⟩ trivial rfl rfl ?_
  rintro ⟨la, ls, dn, km1, kv1⟩ hI _ hAg0
  have k0 : Sok 13 (acc [] dn) := Sok.nil.acc fun x hx => hL.key x (hI.1.mem_iff.1 (by simp [hx]))
  refine CJ.seq fun _ hK5 _ => ?_
  refine CJ.region ?_
  refine J.next rfl hbs hes (fun _ _ => At.z) rfl (fun hE13 => ?_) (fun nx13 la13 lb13 hL13 => ?_)
  ·
    refine J.p (PR.extract rfl rfl) rfl ?_
    refine J.nil ?_
    refine EJ.thenN (hK5 ?_)
    refine CJ.seq fun _ hK6 _ => ?_
    refine CJ.condF rfl ?_
    refine CJ.exit ?_
    refine EJ.thenE ?_
    refine EJ.thenE ?_
    refine EJ.inE ?_
    refine EJ.thenN (hK3 ?_)
    refine CJ.seq fun _ hK7 _ => ?_
    refine CJ.region ?_
    refine J.p (PR.move rfl) rfl ?_
    refine J.p (PR.assign rfl) rfl ?_
    refine J.nil ?_
    refine EJ.thenN (hK7 ?_)
    refine CJ.ret ?_
    refine EJ.ret1 rfl (Res.tmp rfl) fun w hH => ?_
    replace hH := hH.sublist (.cons _ (.cons_cons _ (.cons_cons _ (List.Sublist.refl _))))
    have hp9 := perm_nil hI.1 (by rw [hE13]; rfl)
    have e9 : acc [] dn = leadS ldt lds ldf.length s := acc_perm Sok.nil (fun x hx => hL.key x (hp9.mem_iff.1 hx)) hp9
    rw [e9] at hH
    exact ⟨_, _, _, rfl, hH⟩
  ·
    subst hL13
    have hu := hI.2 nx13 (by simp)
    have hup := ks.key nx13 hu
    have hu8 := hup.len
    have hv := ks.val nx13 hu
    have hu0 := hup.bd 0
    have hone : Ws ldt 0 oneS := Ws.one (c := 1) (by omega)
    refine J.p (PR.extract rfl rfl) rfl ?_
    refine J.nil ?_
    refine EJ.thenN (hK5 ?_)
    refine CJ.seq fun _ hK8 _ => ?_
    refine CJ.condT rfl ?_
    refine CJ.skip ?_
    refine EJ.thenN (hK8 ?_)
    refine CJ.block ?_
    refine CJ.seq fun _ hK9 _ => ?_
    refine CJ.region ?_
    refine J.p (PR.entry rfl hbs hes At.z) rfl ?_
    refine J.p (PR.extract rfl rfl) rfl ?_
    refine J.p (PR.extract rfl rfl) rfl ?_
    refine J.alloc ze94 rfl fun g6 => ?_
    refine J.storeAll rfl rfl (by first | exact bytesC_one _ | exact intsC_one _ | exact Term.c_one _ | simp [Value.oneCell']) (by simpa [*] using sz94) (by simp [*]) At.z ?_
    refine J.p (PR.assign rfl) rfl ?_
    refine J.nil ?_
    refine EJ.thenN (hK9 ?_)
    refine CJ.seq fun _ hK10 _ => ?_
    refine CJ.region ?_
    refine J.call fn185 rfl rfl fun w hH => (number_c  hH).mono ?_
    rintro _ w ⟨bo18, rfl, hH⟩
    refine ⟨_, rfl, fun a hF => J.of hF hH ?_⟩
    refine J.p (PR.assign rfl) rfl ?_
    refine J.nil ?_
    refine EJ.thenN (hK10 ?_)
    refine CJ.seq fun _ hK11 _ => ?_
    refine CJ.seq fun _ hK12 _ => ?_
    refine CJ.region ?_
    refine J.p (PR.move rfl) rfl ?_
    refine J.p (PR.nilCheck rfl) rfl ?_
    refine J.p (PR.fldA u193 rfl sz22 rfl) rfl ?_
    refine J.p (PR.loadH (q := some ⟨bld, 0, none⟩) (k := 0) rfl pld0 pl22) rfl ?_
    refine J.p (PR.lenSlice u22 rfl rfl) rfl ?_
    refine J.p (PR.move rfl) rfl ?_
    refine J.nil ?_
    refine EJ.thenN (hK12 ?_)
    refine CJ.block ?_
    refine CJ.loopU (σ := Nat × Vs × Nat × Nat) (fun ⟨km2, kv2, bt, i⟩ => [(24, .int .i64 (i : Int)), (8, .map (some bt))]) (fun ⟨km2, kv2, bt, i⟩ => H) (fun ⟨km2, kv2, bt, i⟩ => osum bt (prS ldt lds nx13.1 oneS i) :: obj g6 (.cells (intsC nx13.1).toArray 94 (0, 0)) :: itr pwE (Value.int .i64) bs ess cls r12 (some nx13) (la13 ++ lb13) :: osum bm10 (acc [] dn) :: knw (kF ldt lds) kbld km2 kv2 :: L) (fun ⟨km2, kv2, bt, i⟩ => i ≤ ldf.length) (fun ⟨km2, kv2, bt, i⟩ => ldf.length - i) (km1, kv1, bo18, 0) (by show 0 ≤ ldf.length; omega) ⟨rfl, ⟨rfl, trivial⟩⟩ rfl rfl ?_
    rintro ⟨km2, kv2, bt, i⟩ hi _ hAg1
    have hpr := hL.pr hu hone hi
    refine CJ.seq fun _ hK13 _ => ?_
    refine CJ.region ?_
    refine J.p (PR.lss rfl rfl) rfl ?_
    refine J.nil ?_
    refine EJ.thenN (hK13 ?_)
    refine CJ.seq fun _ hK14 _ => ?_
    refine CJ.condD rfl (fun hc25 => ?_) (fun hc25 => ?_)
    ·
      refine CJ.skip ?_
      refine EJ.thenN (hK14 ?_)
      refine CJ.seq fun _ hK15 _ => ?_
      refine CJ.block ?_
      refine CJ.seq fun _ hK16 _ => ?_
      refine CJ.region ?_
      refine J.p (PR.move rfl) rfl ?_
      refine J.p (PR.assign rfl) rfl ?_
      refine J.nil ?_
      refine EJ.thenN (hK16 ?_)
      refine CJ.seq fun _ hK17 _ => ?_
      refine CJ.region ?_
      refine J.p (PR.move rfl) rfl ?_
      refine J.p (PR.idxA1 u94 sz3 rfl rfl rfl (by omega)) rfl ?_
      refine J.p (PR.load rfl (.s .z) (by first | exact bytesC_get (by simp [*]; omega) | exact intsC_get (by simp [*]; omega)) pl3) rfl ?_
      refine J.p (PR.gtr rfl rfl) rfl ?_
      refine J.nil ?_
      refine EJ.thenN (hK17 ?_)
      refine CJ.condD rfl (fun h30 => ?_) (fun h30 => ?_)
      ·
        have hil : i < ldf.length := by omega
        have hpos : 0 < nx13.1.getD i 0 := by omega
        have hpk := hup.bd i
        have hle := hL.le hu hil
        have hpw := hL.pw hu hil
        refine CJ.openR (Rs := [_, _, _, _, _]) 13 [[], [], [1], [1, 2], [1, 2, 3], [], [], [], [7], [7, 8], [5, 6, 7, 8, 9], [0, 1, 2, 3, 4, 5, 6, 7, 8, 9, 10], [0, 1, 2, 3, 4, 5, 6, 7, 8, 9, 10, 11]] [[], [], [], [], [], [], [], [], [], [14], [], [10, 13], []] [[], [], [], [], [], [], [], [], [], [], [17], [], []] rfl rfl (by kernel_rfl) ?_
        apply GJ.st0 1 rfl
        iterate 3 focus (intros; (conv => lhs; simp only [slotsZ, zlAt, vs0, resL, at2, eq_self, Nat.reduceEqDiff, reduceIte, Nat.reduceSub, Nat.reduceAdd, List.cons_append, List.nil_append]); all_goals rfl)
        ·
          intro gh X K zq zc zq2 zc2 zb zv hK
          refine J.p (PR.move rfl) rfl ?_
          refine J.nilK ?_
          exact hK zq zc zq2 zc2 zb zv
        ·
          intro gh gh' h
          rfl
        apply GJ.st0 2 rfl
        iterate 3 focus (intros; (conv => lhs; simp only [slotsZ, zlAt, vs0, resL, at2, eq_self, Nat.reduceEqDiff, reduceIte, Nat.reduceSub, Nat.reduceAdd, List.cons_append, List.nil_append]); all_goals rfl)
        ·
          intro gh X K zq zc zq2 zc2 zb zv hK
          refine J.p (PR.move rfl) rfl ?_
          refine J.nilK ?_
          exact hK zq zc zq2 zc2 zb zv
        ·
          intro gh gh' h
          rfl
        apply GJ.st0 3 rfl
        iterate 3 focus (intros; (conv => lhs; simp only [slotsZ, zlAt, vs0, resL, at2, eq_self, Nat.reduceEqDiff, reduceIte, Nat.reduceSub, Nat.reduceAdd, List.cons_append, List.nil_append]); all_goals rfl)
        ·
          intro gh X K zq zc zq2 zc2 zb zv hK
          refine J.p (PR.nilCheck rfl) rfl ?_
          refine J.nilK ?_
          exact hK zq zc zq2 zc2 zb zv
        ·
          intro gh gh' h
          rfl
        apply GJ.st0 4 rfl
        iterate 3 focus (intros; (conv => lhs; simp only [slotsZ, zlAt, vs0, resL, at2, eq_self, Nat.reduceEqDiff, reduceIte, Nat.reduceSub, Nat.reduceAdd, List.cons_append, List.nil_append]); all_goals rfl)
        ·
          intro gh X K zq zc zq2 zc2 zb zv hK
          refine J.p (PR.fldA u193 rfl sz22 rfl) rfl ?_
          refine J.nilK ?_
          exact hK zq zc zq2 zc2 zb zv
        ·
          intro gh gh' h
          rfl
        apply GJ.st0 5 rfl
        iterate 3 focus (intros; (conv => lhs; simp only [slotsZ, zlAt, vs0, resL, at2, eq_self, Nat.reduceEqDiff, reduceIte, Nat.reduceSub, Nat.reduceAdd, List.cons_append, List.nil_append]); all_goals rfl)
        ·
          intro gh X K zq zc zq2 zc2 zb zv hK
          refine J.p (PR.loadH (q := some ⟨bld, 0, none⟩) (k := 1) rfl pld1 pl22) rfl ?_
          refine J.nilK ?_
          exact hK zq zc zq2 zc2 zb zv
        ·
          intro gh gh' h
          rfl
        apply GJ.st0 6 rfl
        iterate 3 focus (intros; (conv => lhs; simp only [slotsZ, zlAt, vs0, resL, at2, eq_self, Nat.reduceEqDiff, reduceIte, Nat.reduceSub, Nat.reduceAdd, List.cons_append, List.nil_append]); all_goals rfl)
        ·
          intro gh X K zq zc zq2 zc2 zb zv hK
          refine J.p (PR.move rfl) rfl ?_
          refine J.nilK ?_
          exact hK zq zc zq2 zc2 zb zv
        ·
          intro gh gh' h
          rfl
        apply GJ.st0 7 rfl
        iterate 3 focus (intros; (conv => lhs; simp only [slotsZ, zlAt, vs0, resL, at2, eq_self, Nat.reduceEqDiff, reduceIte, Nat.reduceSub, Nat.reduceAdd, List.cons_append, List.nil_append]); all_goals rfl)
        ·
          intro gh X K zq zc zq2 zc2 zb zv hK
          refine J.p (PR.move rfl) rfl ?_
          refine J.nilK ?_
          exact hK zq zc zq2 zc2 zb zv
        ·
          intro gh gh' h
          rfl
        apply GJ.st0 8 rfl
        iterate 3 focus (intros; (conv => lhs; simp only [slotsZ, zlAt, vs0, resL, at2, eq_self, Nat.reduceEqDiff, reduceIte, Nat.reduceSub, Nat.reduceAdd, List.cons_append, List.nil_append]); all_goals rfl)
        ·
          intro gh X K zq zc zq2 zc2 zb zv hK
          refine J.p (PR.move rfl) rfl ?_
          refine J.nilK ?_
          exact hK zq zc zq2 zc2 zb zv
        ·
          intro gh gh' h
          rfl
        apply GJ.st0 9 rfl
        iterate 3 focus (intros; (conv => lhs; simp only [slotsZ, zlAt, vs0, resL, at2, eq_self, Nat.reduceEqDiff, reduceIte, Nat.reduceSub, Nat.reduceAdd, List.cons_append, List.nil_append]); all_goals rfl)
        ·
          intro gh X K zq zc zq2 zc2 zb zv hK
          refine J.p (PR.idxA1 u94 sz3 rfl rfl rfl (by omega)) rfl ?_
          refine J.nilK ?_
          exact hK zq zc zq2 zc2 zb zv
        ·
          intro gh gh' h
          rfl
        apply GJ.st0 10 rfl
        iterate 3 focus (intros; (conv => lhs; simp only [slotsZ, zlAt, vs0, resL, at2, eq_self, Nat.reduceEqDiff, reduceIte, Nat.reduceSub, Nat.reduceAdd, List.cons_append, List.nil_append]); all_goals rfl)
        ·
          intro gh X K zq zc zq2 zc2 zb zv hK
          refine J.p (PR.load rfl At.z (by first | exact bytesC_get (by simp [*]; omega) | exact intsC_get (by simp [*]; omega)) pl3) rfl ?_
          refine J.nilK ?_
          exact hK zq zc zq2 zc2 zb zv
        ·
          intro gh gh' h
          rfl
        apply GJ.st1 11 rfl
        iterate 3 focus (intros; (conv => lhs; simp only [slotsZ, zlAt, vs0, resL, at2, eq_self, Nat.reduceEqDiff, reduceIte, Nat.reduceSub, Nat.reduceAdd, List.cons_append, List.nil_append]); all_goals rfl)
        ·
          intro gh X K zq zc zq2 zc2 zb zv hK
          refine J.call fn186 rfl rfl fun w hH => (pow_c (nx13.1.getD i 0).toNat pld0 pld1 pld2 pld3 hldf hldt hldi (by omega) (by omega) (by omega) hL.dg (hL.im i hil) (hL.ws0 i) (by rw [show (((nx13.1.getD i 0).toNat : Nat) : Int) = nx13.1.getD i 0 by omega, Int.mul_comm]; omega) _ (by omega) _ _ _ _ hH).mono ?_
          rintro _ w ⟨bo41, mo41, vo41, rfl, hH⟩
          refine ⟨_, rfl, fun a hF => J.of hF hH ?_⟩
          refine J.nilK ?_
          exact hK zq mo41 zq2 zc2 bo41 vo41
        ·
          intro gh gh' h
          refine ⟨?_, ?_⟩ <;> rfl
        apply GJ.st1 12 rfl
        iterate 3 focus (intros; (conv => lhs; simp only [slotsZ, zlAt, vs0, resL, at2, eq_self, Nat.reduceEqDiff, reduceIte, Nat.reduceSub, Nat.reduceAdd, List.cons_append, List.nil_append]); all_goals rfl)
        ·
          intro gh X K zq zc zq2 zc2 zb zv hK
          refine J.call fn145 rfl rfl fun w hH => hH.lend (.s .z) fun Hl1 hle1 hA1 hB1 hH => hH.lend .z fun Hl2 hle2 hA2 hB2 hH => (times_c ((omap_H hA1).le hle2) hpr.sok ((hldt.le hle1).le hle2) (knwR_H hA2) hpw.sok hL.dg.hn hL.dg.hd (by omega) hH).mono ?_
          rintro _ w ⟨bo42, rfl, hH⟩
          replace hH := hB2 _ _ hH
          replace hH := hB1 _ _ hH
          refine ⟨_, rfl, fun a hF => J.of hF hH ?_⟩
          refine EJ.front .z ?_
          refine EJ.front (.s .z) ?_
          refine EJ.front (.s (.s .z)) ?_
          refine J.nilK ?_
          exact hK zq zc zq2 zc2 bo42 zv
        ·
          intro gh gh' h
          refine ⟨?_, ?_⟩ <;> (first | simp only [h 10 rfl] | rfl)
        apply GJ.st0 13 rfl
        iterate 3 focus (intros; (conv => lhs; simp only [slotsZ, zlAt, vs0, resL, at2, eq_self, Nat.reduceEqDiff, reduceIte, Nat.reduceSub, Nat.reduceAdd, List.cons_append, List.nil_append]); all_goals rfl)
        ·
          intro gh X K zq zc zq2 zc2 zb zv hK
          refine J.p (PR.assign rfl) rfl ?_
          refine J.nilK ?_
          exact hK zq zc zq2 zc2 zb zv
        ·
          intro gh gh' h
          first | simp only [h 10 rfl, h 11 rfl] | rfl
        apply GJ.close [0, 1, 2, 3, 4, 5, 6, 7, 8, 9, 10, 11, 12] [0, 1, 2, 3, 4, 5, 6, 7, 8, 9, 10, 11, 12, 13, 14, 15, 16] foll0 rfl rfl rfl (by rfl)
        iterate 2 focus (intros; (conv => lhs; simp only [slotsZ, zlAt, vs0, resL, at2, eq_self, Nat.reduceEqDiff, reduceIte, Nat.reduceSub, Nat.reduceAdd, List.cons_append, List.nil_append]); all_goals rfl)
        intro gh
        generalize (gh 10).b = bo41
        generalize (gh 10).c = mo41
        generalize (gh 10).vs = vo41
        generalize (gh 11).b = bo42
        clear gh
        refine EJ.front .z ?_
        refine EJ.knwForget ?_
        refine EJ.inN ?_
        refine EJ.thenN (hK15 ?_)
        refine CJ.region ?_
        refine J.p (PR.add rfl rfl (by first | exact nw _ (by omega) | rfl)) rfl ?_
        refine J.p (PR.move rfl) rfl ?_
        refine J.nil ?_
        refine EJ.thenN ?_
        refine EJ.drop (.s (.s .z)) ?_
        refine EJ.front .z ?_
        refine EJ.front (.s (.s (.s (.s .z)))) ?_
        refine EJ.front (.s (.s (.s (.s .z)))) ?_
        refine EJ.front (.s (.s (.s (.s .z)))) ?_
        refine EJ.front (.s (.s (.s (.s .z)))) ?_
        exact hAg1 (mo41, vo41, bo42, i + 1) (by show i + 1 ≤ ldf.length; omega) (by show ldf.length - (i + 1) < ldf.length - i; omega) 24 rfl rfl ⟨rfl, ⟨rfl, trivial⟩⟩ rfl (by dsimp only; rw [prS_yes hpos])
      ·
        refine CJ.skip ?_
        refine EJ.inN ?_
        refine EJ.thenN (hK15 ?_)
        refine CJ.region ?_
        refine J.p (PR.add rfl rfl (by first | exact nw _ (by omega) | rfl)) rfl ?_
        refine J.p (PR.move rfl) rfl ?_
        refine J.nil ?_
        refine EJ.thenN ?_
        exact hAg1 (km2, kv2, bt, i + 1) (by show i + 1 ≤ ldf.length; omega) (by show ldf.length - (i + 1) < ldf.length - i; omega) 11 rfl rfl ⟨rfl, ⟨rfl, trivial⟩⟩ rfl (by dsimp only; rw [prS_no (by omega)])
    ·
      refine CJ.exit ?_
      refine EJ.thenE ?_
      refine EJ.thenE ?_
      refine EJ.inE ?_
      refine EJ.thenN (hK11 ?_)
      refine CJ.region ?_
      refine J.p (PR.move rfl) rfl ?_
      refine J.p (PR.move rfl) rfl ?_
      refine J.p (PR.move rfl) rfl ?_
      refine J.call fn146 rfl rfl fun w hH => hH.lend .z fun Hl1 hle1 hA1 hB1 hH => (addAll_c k0 (omap_H hA1) hpr.sok (by omega) (by omega) (by omega) (hH.front (.s (.s .z)))).mono ?_
      rintro _ w ⟨rfl, hH⟩
      replace hH := hB1 _ _ hH
      refine ⟨_, rfl, fun a hF => J.of hF hH ?_⟩
      refine J.nil ?_
      refine EJ.inN ?_
      refine EJ.thenN ?_
      refine EJ.drop .z ?_
      refine EJ.drop (.s .z) ?_
      refine EJ.front (.s (.s .z)) ?_
      refine EJ.front (.s .z) ?_
      refine EJ.front (.s (.s .z)) ?_
      exact hAg0 (some nx13, la13 ++ lb13, dn ++ scl (prS ldt lds nx13.1 oneS ldf.length) nx13.2, km2, kv2) ⟨by rw [List.append_assoc]; exact perm_to hI.1 leadL_mid, fun x hx => hI.2 x (by simp at hx ⊢; rcases hx with h | h <;> simp [h])⟩ (by simp) 22 rfl rfl trivial rfl (by dsimp only; rw [acc_app, show i = ldf.length by omega])
end Go.Proofs.Ytpojpokldncglaa.G
namespace Go.Proofs.Ytpojpokldncglaa.G
open Go Go.RowKit
namespace Qi
theorem u190 : Try.prog.underlying 190 = some (TypeDesc.slice 107) := by kernel_rfl
theorem u193 : Try.prog.underlying 193 = some (TypeDesc.struct #[{ name := "from", type := 22, offset := 0, embedded := false, tag := "", pkgPath := "loop.example/g01219/impl", byteOffset := 0 }, { name := "to", type := 22, offset := 1, embedded := false, tag := "", pkgPath := "loop.example/g01219/impl", byteOffset := 24 }, { name := "images", type := 190, offset := 2, embedded := false, tag := "", pkgPath := "loop.example/g01219/impl", byteOffset := 48 }, { name := "known", type := 191, offset := 3, embedded := false, tag := "", pkgPath := "loop.example/g01219/impl", byteOffset := 72 }]) := by kernel_rfl
theorem u29 : Try.prog.underlying 29 = some (TypeDesc.struct #[{ name := "Terms", type := 27, offset := 0, embedded := false, tag := "", pkgPath := "", byteOffset := 0 }]) := by kernel_rfl
theorem u39 : Try.prog.underlying 39 = some (TypeDesc.slice 29) := by kernel_rfl
theorem sz107 : Size Try.prog 107 1 := by unfold Size; kernel_rfl
theorem sz190 : Size Try.prog 190 1 := by unfold Size; kernel_rfl
theorem sz29 : Size Try.prog 29 1 := by unfold Size; kernel_rfl
theorem by107 : Bytes Try.prog 107 8 := by unfold Bytes; kernel_rfl
theorem ze107 : Zero Try.prog 107 [.map none] := by unfold Zero; kernel_rfl
theorem ze29 : Zero Try.prog 29 [.slice none 0 0] := by unfold Zero; kernel_rfl
theorem pl190 : Plain Try.prog 190 := ⟨_, u190, rfl⟩
theorem ag29 : Agg Try.prog 29 1 := ⟨_, u29, rfl, by kernel_rfl⟩
theorem fn96 : Fn Try.prog 96 := ⟨_, Try.func96, by kernel_rfl, rfl⟩
theorem foll0 : Try.prog.follows .mixedOrders = true := by kernel_rfl
end Qi
open Qi
section
variable {P : Program} {n : Nat} {B : World} {H0 H : HP} {us : List (Nat × Value)} {L : List SA} {t : TypeId} {x y z : Operand}
theorem PR.build3 {ty : TypeId} {i j k : Nat} {u v r : Value} {cs : List Value} (hx : opv us x = some u) (hy : opv us y = some v) (hz : opv us z = some r) (hb : ∀ w, (Instr.build ty #[(i, u), (j, v), (k, r)]).run P w = .ok (.agg cs.toArray) w) : PR P n B H0 us H L (.build ty #[(i, x), (j, y), (k, z)]) t (.agg cs.toArray) :=
  fun _ _ _ _ a w hF _ => by simp [execOp, hF.ev hx, hF.ev hy, hF.ev hz, hb w]
end
theorem bld3 : ∀ (q : Option Addr) (n c : Nat) (q' : Option Addr) (n' c' kb : Nat) w, (Instr.build 193 #[(0, .slice q n c), (1, .slice q' n' c'), (3, .map (some kb))]).run Try.prog w = .ok (.agg [Value.slice q n c, Value.slice q' n' c', Value.slice none 0 0, Value.map (some kb)].toArray) w := fun _ _ _ _ _ _ _ _ => by kernel_rfl
def mapsC (bs : Nat → Nat) (k : Nat) : List Value := (List.range k).map fun i => Value.map (some (bs i))
@[simp] theorem mapsC_len (bs : Nat → Nat) (k : Nat) : (mapsC bs k).length = k := by simp [mapsC]
theorem mapsC_get {bs : Nat → Nat} {k i : Nat} (h : i < k) : (mapsC bs k)[i]? = some (.map (some (bs i))) := by simp [mapsC, h]
theorem mapsC_snoc (bs : Nat → Nat) (k b : Nat) : mapsC bs k ++ [.map (some b)] = mapsC (updN bs k b) (k + 1) := by
  unfold mapsC
  rw [List.range_succ, List.map_append]
  congr 1
  · exact List.map_congr_left fun i hi => by
      have := List.mem_range.1 hi
      simp [updN, Nat.ne_of_lt this]
  · simp [updN]
set_option maxHeartbeats 4000000 in
set_option maxRecDepth 10000 in
theorem leaderOf_c {B : World} {H0 H : HP} {L : List SA} {w : World} {qfd : Option Addr} {cfd : Nat} {fd : List Int} {qtd : Option Addr} {ctd : Nat} {td : List Int} {qms : Option Addr} {cms : Nat} {ms : List (List Term)} {Mi : Int} (hfd : Ints H qfd fd) (htd : Ints H qtd td) (hms : Forms H qms ms) (hf : Fok Mi ms) (hm : ms.length ≤ 1048576) (hH : Hp B H0 H L w) :
    Calls Try.prog 181 [.slice qfd fd.length cfd, .slice qtd td.length ctd, .slice qms ms.length cms].toArray w fun e w' => ∃ g q c bs kb, e = .returned (.pointer (some ⟨g, 0, none⟩)) ∧ Hp B H0 H (obj g (.cells [.slice qfd fd.length cfd, .slice qtd td.length ctd, .slice q ms.length c, .map (some kb)].toArray 193 (0, 0)) :: imgs bs (ssF ms) ms.length :: own 107 1 q ms.length c (mapsC bs ms.length) :: okn kb [] :: L) w' := by
  refine CJ.enter Try.func181 rfl 34 rfl rfl [(0, .slice qfd fd.length cfd), (1, .slice qtd td.length ctd), (2, .slice qms ms.length cms)] rfl hH ?_
  clear hH
  refine CJ.seq fun _ hK1 _ => ?_
  refine CJ.region ?_
  refine J.p (PR.assign rfl) rfl ?_
  refine J.nil ?_
  refine EJ.thenN (hK1 ?_)
  refine CJ.seq fun _ hK2 _ => ?_
  refine CJ.region ?_
  refine J.p (PR.move rfl) rfl ?_
  refine J.p (PR.move rfl) rfl ?_
  refine J.makeMap pwE mvE k2Ok rfl fun kb => ?_
  refine J.own0 107 1 ?_
  refine J.im0 (fun _ => 0) (ssF ms) ?_
  refine J.p (PR.build3 rfl rfl rfl (fun w => bld3 _ _ _ _ _ _ _ w)) rfl ?_
  refine J.box rfl rfl rfl fun g14 => ?_
  refine J.p (PR.assign rfl) rfl ?_
  refine J.nil ?_
  refine EJ.thenN (hK2 ?_)
  refine CJ.seq fun _ hK3 _ => ?_
  refine CJ.seq fun _ hK4 _ => ?_
  refine CJ.region ?_
  refine J.p (PR.move rfl) rfl ?_
  refine J.p (PR.lenSlice u39 rfl rfl) rfl ?_
  refine J.p (PR.move rfl) rfl ?_
  refine J.nil ?_
  refine EJ.thenN (hK4 ?_)
  refine CJ.block ?_
  refine CJ.loopU (σ := Option Addr × Nat × (Nat → Nat) × Nat) (fun ⟨q, c, bs, k⟩ => [(17, .int .i64 (k : Int))]) (fun ⟨q, c, bs, k⟩ => H) (fun ⟨q, c, bs, k⟩ => obj g14 (.cells [.slice qfd fd.length cfd, .slice qtd td.length ctd, .slice q k c, .map (some kb)].toArray 193 (0, 0)) :: imgs bs (ssF ms) k :: own 107 1 q k c (mapsC bs k) :: okn kb [] :: L) (fun ⟨q, c, bs, k⟩ => k ≤ ms.length) (fun ⟨q, c, bs, k⟩ => ms.length - k) (none, 0, fun _ => 0, 0) (by show 0 ≤ ms.length; omega) ⟨rfl, trivial⟩ rfl rfl ?_
  rintro ⟨q, c, bs, k⟩ hk _ hAg0
  refine CJ.seq fun _ hK5 _ => ?_
  refine CJ.region ?_
  refine J.p (PR.lss rfl rfl) rfl ?_
  refine J.nil ?_
  refine EJ.thenN (hK5 ?_)
  refine CJ.seq fun _ hK6 _ => ?_
  refine CJ.condD rfl (fun hc18 => ?_) (fun hc18 => ?_)
  ·
    refine CJ.skip ?_
    refine EJ.thenN (hK6 ?_)
    refine CJ.seq fun _ hK7 _ => ?_
    refine CJ.block ?_
    refine CJ.seq fun _ hK8 _ => ?_
    refine CJ.region ?_
    refine J.p (PR.idx1 u39 sz29 rfl rfl rfl (by omega) hms.sm) rfl ?_
    obtain ⟨qe20, ce20, he20, le20, Fe20⟩ := hms k (by omega)
    refine J.p (PR.loadHagg (cs := [_]) rfl (one_cell he20) (hms.sm (i := k) (by omega)) ag29) rfl ?_
    refine J.alloc ze29 rfl fun g9 => ?_
    refine J.storeAll rfl rfl (by first | exact bytesC_one _ | exact intsC_one _ | exact Term.c_one _ | simp [Value.oneCell']) (by simpa [*] using sz29) (by simp [*]) At.z ?_
    refine J.nil ?_
    refine EJ.thenN (hK8 ?_)
    refine CJ.openR (Rs := [_, _, _, _, _]) 12 [[], [], [1], [1, 2], [1, 2, 3], [], [5], [5, 6], [1, 2, 3, 4, 5, 6, 7], [0, 1, 2, 3, 4, 5, 6, 7, 8], [0, 1, 2, 3, 4, 5, 6, 7, 8, 9], [0, 1, 2, 3, 4, 5, 6, 7, 8, 9, 10]] [[], [], [], [], [13], [12], [], [], [7], [], [], []] [[], [], [], [], [], [], [], [], [15], [], [], [13]] rfl rfl (by kernel_rfl) ?_
    apply GJ.st0 1 rfl
    iterate 3 focus (intros; (conv => lhs; simp only [slotsZ, zlAt, vs0, resL, at2, eq_self, Nat.reduceEqDiff, reduceIte, Nat.reduceSub, Nat.reduceAdd, List.cons_append, List.nil_append]); all_goals rfl)
    ·
      intro gh X K zq zc zq2 zc2 zb zv hK
      refine J.p (PR.move rfl) rfl ?_
      refine J.nilK ?_
      exact hK zq zc zq2 zc2 zb zv
    ·
      intro gh gh' h
      rfl
    apply GJ.st0 2 rfl
    iterate 3 focus (intros; (conv => lhs; simp only [slotsZ, zlAt, vs0, resL, at2, eq_self, Nat.reduceEqDiff, reduceIte, Nat.reduceSub, Nat.reduceAdd, List.cons_append, List.nil_append]); all_goals rfl)
    ·
      intro gh X K zq zc zq2 zc2 zb zv hK
      refine J.p (PR.move rfl) rfl ?_
      refine J.nilK ?_
      exact hK zq zc zq2 zc2 zb zv
    ·
      intro gh gh' h
      rfl
    apply GJ.st0 3 rfl
    iterate 3 focus (intros; (conv => lhs; simp only [slotsZ, zlAt, vs0, resL, at2, eq_self, Nat.reduceEqDiff, reduceIte, Nat.reduceSub, Nat.reduceAdd, List.cons_append, List.nil_append]); all_goals rfl)
    ·
      intro gh X K zq zc zq2 zc2 zb zv hK
      refine J.p (PR.nilCheck rfl) rfl ?_
      refine J.nilK ?_
      exact hK zq zc zq2 zc2 zb zv
    ·
      intro gh gh' h
      rfl
    apply GJ.st0 4 rfl
    iterate 3 focus (intros; (conv => lhs; simp only [slotsZ, zlAt, vs0, resL, at2, eq_self, Nat.reduceEqDiff, reduceIte, Nat.reduceSub, Nat.reduceAdd, List.cons_append, List.nil_append]); all_goals rfl)
    ·
      intro gh X K zq zc zq2 zc2 zb zv hK
      refine J.p (PR.fldA u193 rfl sz190 rfl) rfl ?_
      refine J.nilK ?_
      exact hK zq zc zq2 zc2 zb zv
    ·
      intro gh gh' h
      rfl
    apply GJ.st0 5 rfl
    iterate 3 focus (intros; (conv => lhs; simp only [slotsZ, zlAt, vs0, resL, at2, eq_self, Nat.reduceEqDiff, reduceIte, Nat.reduceSub, Nat.reduceAdd, List.cons_append, List.nil_append]); all_goals rfl)
    ·
      intro gh X K zq zc zq2 zc2 zb zv hK
      refine J.p (PR.load rfl At.z rfl pl190) rfl ?_
      refine J.nilK ?_
      exact hK zq zc zq2 zc2 zb zv
    ·
      intro gh gh' h
      rfl
    apply GJ.st0 6 rfl
    iterate 3 focus (intros; (conv => lhs; simp only [slotsZ, zlAt, vs0, resL, at2, eq_self, Nat.reduceEqDiff, reduceIte, Nat.reduceSub, Nat.reduceAdd, List.cons_append, List.nil_append]); all_goals rfl)
    ·
      intro gh X K zq zc zq2 zc2 zb zv hK
      refine J.p (PR.loadAll rfl At.z (by simpa [*] using ag29)) rfl ?_
      refine J.nilK ?_
      exact hK zq zc zq2 zc2 zb zv
    ·
      intro gh gh' h
      rfl
    apply GJ.st1 7 rfl
    iterate 3 focus (intros; (conv => lhs; simp only [slotsZ, zlAt, vs0, resL, at2, eq_self, Nat.reduceEqDiff, reduceIte, Nat.reduceSub, Nat.reduceAdd, List.cons_append, List.nil_append]); all_goals rfl)
    ·
      intro gh X K zq zc zq2 zc2 zb zv hK
      refine J.call fn96 rfl rfl fun w hH => (sumOf_c Fe20 (hf k (by omega)).1 (hf k (by omega)).2 hH).mono ?_
      rintro _ w ⟨bo27, rfl, hH⟩
      refine ⟨_, rfl, fun a hF => J.of hF hH ?_⟩
      refine J.nilK ?_
      exact hK zq zc zq2 zc2 bo27 zv
    ·
      intro gh gh' h
      refine ⟨?_, ?_⟩ <;> rfl
    apply GJ.st1 8 rfl
    iterate 3 focus (intros; (conv => lhs; simp only [slotsZ, zlAt, vs0, resL, at2, eq_self, Nat.reduceEqDiff, reduceIte, Nat.reduceSub, Nat.reduceAdd, List.cons_append, List.nil_append]); all_goals rfl)
    ·
      intro gh X K zq zc zq2 zc2 zb zv hK
      refine J.mk (MK.lit1S u190 ze107 sz107 rfl rfl) rfl fun qo28 co28 => ?_
      refine J.nilK ?_
      exact hK qo28 co28 zq2 zc2 zb zv
    ·
      intro gh gh' h
      refine ⟨?_, ?_⟩ <;> (first | simp only [h 6 rfl] | rfl)
    apply GJ.st1 9 rfl
    iterate 3 focus (intros; (conv => lhs; simp only [slotsZ, zlAt, vs0, resL, at2, eq_self, Nat.reduceEqDiff, reduceIte, Nat.reduceSub, Nat.reduceAdd, List.cons_append, List.nil_append]); all_goals rfl)
    ·
      intro gh X K zq zc zq2 zc2 zb zv hK
      refine J.append1 u190 ze107 sz107 by107 rfl rfl rfl rfl (by omega) (.s .z) At.z (fun _ _ => At.z) rfl fun qo29 co29 => ?_
      refine EJ.front .z ?_
      refine EJ.front (.s .z) ?_
      refine J.nilK ?_
      exact hK qo29 co29 zq2 zc2 zb zv
    ·
      intro gh gh' h
      refine ⟨?_, ?_⟩ <;> (first | simp only [h 6 rfl, h 7 rfl] | rfl)
    apply GJ.st0 10 rfl
    iterate 3 focus (intros; (conv => lhs; simp only [slotsZ, zlAt, vs0, resL, at2, eq_self, Nat.reduceEqDiff, reduceIte, Nat.reduceSub, Nat.reduceAdd, List.cons_append, List.nil_append]); all_goals rfl)
    ·
      intro gh X K zq zc zq2 zc2 zb zv hK
      refine J.p (PR.nilCheck rfl) rfl ?_
      refine J.nilK ?_
      exact hK zq zc zq2 zc2 zb zv
    ·
      intro gh gh' h
      first | simp only [h 6 rfl, h 7 rfl, h 8 rfl] | rfl
    apply GJ.st0 11 rfl
    iterate 3 focus (intros; (conv => lhs; simp only [slotsZ, zlAt, vs0, resL, at2, eq_self, Nat.reduceEqDiff, reduceIte, Nat.reduceSub, Nat.reduceAdd, List.cons_append, List.nil_append]); all_goals rfl)
    ·
      intro gh X K zq zc zq2 zc2 zb zv hK
      refine J.p (PR.fldA u193 rfl sz190 rfl) rfl ?_
      refine J.nilK ?_
      exact hK zq zc zq2 zc2 zb zv
    ·
      intro gh gh' h
      first | simp only [h 6 rfl, h 7 rfl, h 8 rfl] | rfl
    apply GJ.sn1 12 rfl
    iterate 3 focus (intros; (conv => lhs; simp only [slotsZ, zlAt, vs0, resL, at2, eq_self, Nat.reduceEqDiff, reduceIte, Nat.reduceSub, Nat.reduceAdd, List.cons_append, List.nil_append]); all_goals rfl)
    ·
      intro gh X K hK
      refine J.store rfl rfl rfl rfl sz190 (by simp [*]) At.z ?_
      refine J.nilK ?_
      exact hK
    ·
      intro gh gh' h
      first | simp only [h 6 rfl, h 7 rfl, h 8 rfl] | rfl
    apply GJ.close [0, 1, 2, 3, 4, 5, 6, 7, 8, 9, 10, 11] [0, 1, 2, 3, 4, 5, 6, 7, 8, 9, 10, 11, 12, 14, 16] foll0 rfl rfl rfl (by rfl)
    iterate 2 focus (intros; (conv => lhs; simp only [slotsZ, zlAt, vs0, resL, at2, eq_self, Nat.reduceEqDiff, reduceIte, Nat.reduceSub, Nat.reduceAdd, List.cons_append, List.nil_append]); all_goals rfl)
    intro gh
    generalize (gh 6).b = bo27
    generalize (gh 7).c = co28
    generalize (gh 7).q = qo28
    generalize (gh 8).c = co29
    generalize (gh 8).q = qo29
    clear gh
    refine EJ.inN ?_
    refine EJ.thenN (hK7 ?_)
    refine CJ.region ?_
    refine J.p (PR.add rfl rfl (by first | exact nw _ (by omega) | rfl)) rfl ?_
    refine J.p (PR.move rfl) rfl ?_
    refine J.nil ?_
    refine EJ.thenN ?_
    refine EJ.front (.s (.s (.s (.s (.s (.s .z)))))) ?_
    refine EJ.front (.s (.s (.s (.s (.s .z))))) ?_
    refine EJ.front (.s (.s (.s (.s (.s .z))))) ?_
    refine EJ.front (.s (.s (.s (.s (.s .z))))) ?_
    refine EJ.front (.s (.s (.s (.s (.s .z))))) ?_
    refine EJ.front (.s (.s (.s (.s (.s (.s .z)))))) ?_
    refine EJ.front (.s (.s (.s (.s (.s (.s .z)))))) ?_
    refine EJ.imSnoc rfl ?_
    refine EJ.drop (.s .z) ?_
    refine EJ.drop (.s (.s (.s .z))) ?_
    refine EJ.front (.s (.s (.s .z))) ?_
    refine EJ.front (.s (.s .z)) ?_
    refine EJ.front (.s (.s .z)) ?_
    refine EJ.front (.s (.s (.s .z))) ?_
    exact hAg0 (qo29, co29, updN bs k bo27, k + 1) (by show k + 1 ≤ ms.length; omega) (by show ms.length - (k + 1) < ms.length - k; omega) 18 rfl rfl ⟨rfl, trivial⟩ rfl (by dsimp only; rw [mapsC_snoc]; rfl)
  ·
    refine CJ.exit ?_
    refine EJ.thenE ?_
    refine EJ.thenE ?_
    refine EJ.inE ?_
    refine EJ.thenN (hK3 ?_)
    refine CJ.seq fun _ hK9 _ => ?_
    refine CJ.region ?_
    refine J.p (PR.move rfl) rfl ?_
    refine J.p (PR.assign rfl) rfl ?_
    refine J.nil ?_
    refine EJ.thenN (hK9 ?_)
    refine CJ.ret ?_
    refine EJ.ret1 rfl (Res.tmp rfl) fun w hH => ?_
    replace hH := hH.sublist (.cons_cons _ (.cons_cons _ (.cons_cons _ (.cons_cons _ (List.Sublist.refl _)))))
    obtain rfl : k = ms.length := by omega
    exact ⟨_, _, _, _, _, rfl, hH⟩
end Go.Proofs.Ytpojpokldncglaa.G
namespace Go.Proofs.Ytpojpokldncglaa.G
open Go Go.RowKit
namespace Qj
theorem u107 : Try.prog.underlying 107 = some (TypeDesc.map 94 2) := by kernel_rfl
theorem u2 : Try.prog.underlying 2 = some (TypeDesc.int .i64) := by kernel_rfl
theorem u22 : Try.prog.underlying 22 = some (TypeDesc.slice 2) := by kernel_rfl
theorem u29 : Try.prog.underlying 29 = some (TypeDesc.struct #[{ name := "Terms", type := 27, offset := 0, embedded := false, tag := "", pkgPath := "", byteOffset := 0 }]) := by kernel_rfl
theorem u39 : Try.prog.underlying 39 = some (TypeDesc.slice 29) := by kernel_rfl
theorem sz2 : Size Try.prog 2 1 := by unfold Size; kernel_rfl
theorem sz29 : Size Try.prog 29 1 := by unfold Size; kernel_rfl
theorem ze29 : Zero Try.prog 29 [.slice none 0 0] := by unfold Zero; kernel_rfl
theorem pl2 : Plain Try.prog 2 := ⟨_, u2, rfl⟩
theorem ag29 : Agg Try.prog 29 1 := ⟨_, u29, rfl, by kernel_rfl⟩
theorem fn146 : Fn Try.prog 146 := ⟨_, Try.func146, by kernel_rfl, rfl⟩
theorem fn91 : Fn Try.prog 91 := ⟨_, Try.func91, by kernel_rfl, rfl⟩
theorem fn92 : Fn Try.prog 92 := ⟨_, Try.func92, by kernel_rfl, rfl⟩
theorem foll0 : Try.prog.follows .mixedOrders = true := by kernel_rfl
end Qj
open Qj
theorem scl_1 {M : Int} {s : Sm} (h : Sok M s) : scl s 1 = s := by
  unfold scl
  refine (List.map_congr_left fun x hx => ?_).trans (List.map_id s)
  have := h.val x hx
  rw [Int.mul_one, Int.tmod_eq_emod_of_nonneg (by omega), Int.emod_eq_of_lt (by omega) (by omega)]
  rfl
theorem mpOk_both {bd ad : List Int} {ms : List (List Term)} {i : Nat} (h1 : isForm bd (fm ms i) = true) (h2 : degOk bd (fm ms i) (ad.getD i 0) = true) : mpOk bd ms ad i = true := by unfold mpOk; rw [h1, h2]; rfl
theorem mpOk_no4 {bd ad : List Int} {ms : List (List Term)} {i : Nat} (h1 : degOk bd (fm ms i) (ad.getD i 0) = false) : mpOk bd ms ad i = false := by unfold mpOk; rw [h1]; simp
set_option maxRecDepth 10000 in
theorem same_c {B : World} {H0 H : HP} {L : List SA} {w : World} {vs : Value} {Ms : Int} {s : Sm} {vt : Value} {Mt : Int} {t : Sm}  (hs : SumH H vs s) (ks : Sok Ms s) (ht : SumH H vt t) (kt : Sok Mt t) (hMs : Ms ≤ 1000000) (hMt : Mt ≤ Ms) (hH : Hp B H0 H L w) :
    Calls Try.prog 183 [vs, vt].toArray w fun e w' => e = .returned (.bool (decide ((acc s (scl t 10006)).length = 0))) ∧ Hp B H0 H L w' := by
  refine CJ.enter Try.func183 rfl 16 rfl rfl [(0, vs), (1, vt)] rfl hH ?_
  clear hH
  have e1 : acc [] (scl s 1) = s := by rw [scl_1 ks]; exact acc_self ks
  have k0 : Sok Ms (acc [] (scl s 1)) := by rw [e1]; exact ks
  refine CJ.seq fun _ hK1 _ => ?_
  refine CJ.region ?_
  refine J.p (PR.assign rfl) rfl ?_
  refine J.nil ?_
  refine EJ.thenN (hK1 ?_)
  refine CJ.seq fun _ hK2 _ => ?_
  refine CJ.region ?_
  refine J.makeMap pwE (Value.int .i64) pwOk rfl fun bm6 => ?_
  refine J.p (PR.assign rfl) rfl ?_
  refine J.nil ?_
  refine EJ.thenN (hK2 ?_)
  refine CJ.seq fun _ hK3 _ => ?_
  refine CJ.region ?_
  refine J.p (PR.move rfl) rfl ?_
  refine J.p (PR.move rfl) rfl ?_
  refine J.call fn146 rfl rfl fun w hH => (addAll_c Sok.nil hs ks (by omega) (by omega) (by omega) (hH.front .z)).mono ?_
  rintro _ w ⟨rfl, hH⟩
  refine ⟨_, rfl, fun a hF => J.of hF hH ?_⟩
  refine J.nil ?_
  refine EJ.thenN (hK3 ?_)
  refine CJ.seq fun _ hK4 _ => ?_
  refine CJ.region ?_
  refine J.p (PR.move rfl) rfl ?_
  refine J.p (PR.move rfl) rfl ?_
  refine J.call fn146 rfl rfl fun w hH => (addAll_c k0 ht kt (by omega) (by omega) (by omega) (hH.front .z)).mono ?_
  rintro _ w ⟨rfl, hH⟩
  refine ⟨_, rfl, fun a hF => J.of hF hH ?_⟩
  refine J.nil ?_
  refine EJ.thenN (hK4 ?_)
  refine CJ.seq fun _ hK5 _ => ?_
  refine CJ.region ?_
  refine J.p (PR.move rfl) rfl ?_
  refine J.p (PR.lenO u107 rfl At.z rfl) rfl ?_
  refine J.p (PR.eql rfl rfl) rfl ?_
  refine J.p (PR.assign rfl) rfl ?_
  refine J.nil ?_
  refine EJ.thenN (hK5 ?_)
  refine CJ.ret ?_
  refine EJ.ret1 rfl (Res.tmp rfl) fun w hH => ?_
  replace hH := hH.tail
  exact ⟨rb (by rw [e1]; exact decide_eq_decide.2 (by omega)), hH⟩
set_option maxHeartbeats 4000000 in
set_option maxRecDepth 10000 in
theorem isAssignment_c {B : World} {H0 H : HP} {L : List SA} {w : World} {qfd : Option Addr} {cfd : Nat} {fd : List Int} {qtd : Option Addr} {ctd : Nat} {td : List Int} {qms : Option Addr} {cms : Nat} {ms : List (List Term)}  (hfd : Ints H qfd fd) (htd : Ints H qtd td) (hms : Forms H qms ms) (hn : td.length ≤ 8) (hd : ∀ j, 0 ≤ td.getD j 0 ∧ td.getD j 0 ≤ 12) (hmn : ms.length ≤ 1048576) (hml : ∀ i, i < ms.length → (fm ms i).length ≤ 1048576) (hH : Hp B H0 H L w) :
    Calls Try.prog 163 [.slice qfd fd.length cfd, .slice qtd td.length ctd, .slice qms ms.length cms].toArray w fun e w' => e = .returned (.bool (decide (ms.length = fd.length) && mpsOk td ms fd)) ∧ Hp B H0 H L w' := by
  refine CJ.enter Try.func163 rfl 36 rfl rfl [(0, .slice qfd fd.length cfd), (1, .slice qtd td.length ctd), (2, .slice qms ms.length cms)] rfl hH ?_
  clear hH
  refine CJ.seq fun _ hK1 _ => ?_
  refine CJ.region ?_
  refine J.p (PR.assign rfl) rfl ?_
  refine J.nil ?_
  refine EJ.thenN (hK1 ?_)
  refine CJ.seq fun _ hK2 _ => ?_
  refine CJ.seq fun _ hK3 _ => ?_
  refine CJ.region ?_
  refine J.p (PR.move rfl) rfl ?_
  refine J.p (PR.lenSlice u39 rfl rfl) rfl ?_
  refine J.p (PR.move rfl) rfl ?_
  refine J.p (PR.lenSlice u22 rfl rfl) rfl ?_
  refine J.p (PR.neq rfl rfl) rfl ?_
  refine J.nil ?_
  refine EJ.thenN (hK3 ?_)
  refine CJ.condD rfl (fun h13 => ?_) (fun h13 => ?_)
  ·
    refine CJ.seq fun _ hK4 _ => ?_
    refine CJ.region ?_
    refine J.p (PR.assign rfl) rfl ?_
    refine J.nil ?_
    refine EJ.thenN (hK4 ?_)
    refine CJ.ret ?_
    refine EJ.thenR ?_
    refine EJ.ret1 rfl (Res.tmp rfl) fun w hH => ?_
    exact ⟨rb (by rw [decide_eq_false (show ¬ ms.length = fd.length by omega)]; rfl), hH⟩
  ·
    have hlen : ms.length = fd.length := by omega
    refine CJ.skip ?_
    refine EJ.thenN (hK2 ?_)
    refine CJ.seq fun _ hK5 _ => ?_
    refine CJ.seq fun _ hK6 _ => ?_
    refine CJ.region ?_
    refine J.p (PR.move rfl) rfl ?_
    refine J.p (PR.lenSlice u39 rfl rfl) rfl ?_
    refine J.p (PR.move rfl) rfl ?_
    refine J.nil ?_
    refine EJ.thenN (hK6 ?_)
    refine CJ.block ?_
    refine CJ.loopU (σ := Nat) (fun (k : Nat) => [(16, .int .i64 (k : Int))]) (fun (k : Nat) => H) (fun (k : Nat) => L) (fun (k : Nat) => k ≤ ms.length ∧ ∀ j, j < k → mpOk td ms fd j = true) (fun (k : Nat) => ms.length - k) 0 ⟨by omega, fun j hj => by omega⟩ ⟨rfl, trivial⟩ rfl rfl ?_
    rintro k ⟨hk, hI⟩ _ hAg0
    refine CJ.seq fun _ hK7 _ => ?_
    refine CJ.region ?_
    refine J.p (PR.lss rfl rfl) rfl ?_
    refine J.nil ?_
    refine EJ.thenN (hK7 ?_)
    refine CJ.seq fun _ hK8 _ => ?_
    refine CJ.condD rfl (fun h17 => ?_) (fun h17 => ?_)
    ·
      have hl0 := hml k (by omega)
      refine CJ.skip ?_
      refine EJ.thenN (hK8 ?_)
      refine CJ.seq fun _ hK9 _ => ?_
      refine CJ.block ?_
      refine CJ.seq fun _ hK10 _ => ?_
      refine CJ.region ?_
      refine J.p (PR.move rfl) rfl ?_
      refine J.p (PR.idx1 u39 sz29 rfl rfl rfl (by omega) hms.sm) rfl ?_
      obtain ⟨qe20, ce20, he20, le20, Fe20⟩ := hms k (by omega)
      refine J.p (PR.loadHagg (cs := [_]) rfl (one_cell he20) (hms.sm (i := k) (by omega)) ag29) rfl ?_
      refine J.alloc ze29 rfl fun g8 => ?_
      refine J.p (PR.assign rfl) rfl ?_
      refine J.storeAll rfl rfl (by first | exact bytesC_one _ | exact intsC_one _ | exact Term.c_one _ | simp [Value.oneCell']) (by simpa [*] using sz29) (by simp [*]) At.z ?_
      refine J.nil ?_
      refine EJ.thenN (hK10 ?_)
      refine CJ.seq fun _ hK11 _ => ?_
      refine CJ.head [[], [], [0, 1], [2], [3], [4], [4], [4], [4], [7, 8, 4], [9, 4]] (by kernel_rfl) ?_
      refine HJ.op (fun gh => PR.move rfl) ?_
      refine HJ.op (fun gh => PR.loadAll rfl At.z (by simpa [*] using ag29)) ?_
      refine HJ.call fn91 (fun gh => rfl) (fun w X hH => isForm_c htd Fe20 (by omega) (by omega) hH) ?_
      refine HJ.op (fun gh => PR.not rfl) ?_
      refine HJ.op (fun gh => PR.move rfl) ?_
      refine HJ.splitB 4 rfl (fun h25 => ?_) (fun h25 => ?_)
      ·
        try have h25p := of_decide_eq_true h25
        refine HJ.gn rfl (fun gh => rfl) h25 ?_
        refine HJ.gn rfl (fun gh => rfl) h25 ?_
        refine HJ.gn rfl (fun gh => rfl) h25 ?_
        refine HJ.gn rfl (fun gh => rfl) h25 ?_
        refine HJ.gn rfl (fun gh => rfl) h25 ?_
        refine HJ.gn rfl (fun gh => rfl) h25 ?_
        refine HJ.close 11 1 foll0 (by kernel_rfl) rfl rfl fun gh => ?_
        refine J.conv (us' := (21, _) :: (22, _) :: (23, _) :: (24, _) :: (25, _) :: (26, _) :: (27, _) :: (28, _) :: (29, _) :: (30, _) :: (31, _) :: _) (L' := _) rfl rfl ?_
        refine J.gn rfl rfl rfl h25 ?_
        refine J.nil ?_
        refine EJ.still ?_
        refine JS.gn rfl rfl rfl h25 ?_
        refine JS.op (PR.pickT rfl h25 rfl) rfl ?_
        refine JS.nil ?_
        refine EJ.thenN (hK11 ?_)
        refine CJ.condT rfl ?_
        refine CJ.seq fun _ hK12 _ => ?_
        refine CJ.region ?_
        refine J.p (PR.assign rfl) rfl ?_
        refine J.nil ?_
        refine EJ.thenN (hK12 ?_)
        refine CJ.ret ?_
        refine EJ.inR ?_
        refine EJ.thenR ?_
        refine EJ.thenR ?_
        refine EJ.inR ?_
        refine EJ.thenR ?_
        refine EJ.ret1 rfl (Res.tmp rfl) fun w hH => ?_
        replace hH := hH.tail
        exact ⟨rb (by rw [mpsOk_bad (i := k) (by omega) (mpOk_no1 (by simpa using h25))]; simp), hH⟩
      ·
        try have h25p := of_decide_eq_false h25
        refine HJ.gy (fun gh => PR.move rfl) rfl (fun gh => rfl) h25 ?_
        refine HJ.gy (fun gh => PR.loadAll rfl At.z (by simpa [*] using ag29)) rfl (fun gh => rfl) h25 ?_
        refine HJ.gy (fun gh => PR.move rfl) rfl (fun gh => rfl) h25 ?_
        refine HJ.gy (fun gh => PR.move rfl) rfl (fun gh => rfl) h25 ?_
        refine HJ.gy (fun gh => PR.idx1 u22 sz2 rfl rfl rfl (by omega) hfd.sm) rfl (fun gh => rfl) h25 ?_
        refine HJ.gy (fun gh => PR.loadH rfl (hfd _ (by omega)) pl2) rfl (fun gh => rfl) h25 ?_
        refine HJ.close 11 1 foll0 (by kernel_rfl) rfl rfl fun gh => ?_
        refine J.conv (us' := (21, _) :: (22, _) :: (23, _) :: (24, _) :: (25, _) :: (26, _) :: (27, _) :: (28, _) :: (29, _) :: (30, _) :: (31, _) :: _) (L' := _) rfl rfl ?_
        refine J.gcall fn92 rfl rfl h25 rfl rfl fun w hH => (isOfDegree_c htd Fe20 hn hd (by omega) hH).mono ?_
        rintro _ w ⟨rfl, hH⟩
        refine ⟨_, rfl, fun a hF => J.of hF hH ?_⟩
        refine J.nil ?_
        refine EJ.still ?_
        refine JS.gy (PR.not rfl) rfl rfl rfl h25 ?_
        refine JS.op (PR.pickF rfl h25 rfl) rfl ?_
        refine JS.nil ?_
        refine EJ.thenN (hK11 ?_)
        refine CJ.cond rfl (fun h34 => ?_) (fun h34 => ?_)
        ·
          refine CJ.seq fun _ hK13 _ => ?_
          refine CJ.region ?_
          refine J.p (PR.assign rfl) rfl ?_
          refine J.nil ?_
          refine EJ.thenN (hK13 ?_)
          refine CJ.ret ?_
          refine EJ.inR ?_
          refine EJ.thenR ?_
          refine EJ.thenR ?_
          refine EJ.inR ?_
          refine EJ.thenR ?_
          refine EJ.ret1 rfl (Res.tmp rfl) fun w hH => ?_
          replace hH := hH.tail
          exact ⟨rb (by rw [mpsOk_bad (i := k) (by omega) (mpOk_no4 (by simpa using h34))]; simp), hH⟩
        ·
          refine CJ.skip ?_
          refine EJ.inN ?_
          refine EJ.thenN (hK9 ?_)
          refine CJ.region ?_
          refine J.p (PR.add rfl rfl (by first | exact nw _ (by omega) | rfl)) rfl ?_
          refine J.p (PR.move rfl) rfl ?_
          refine J.nil ?_
          refine EJ.thenN ?_
          refine EJ.drop .z ?_
          exact hAg0 (k + 1) ⟨by omega, upto hI (mpOk_both (by simpa using h25) (by simpa using h34))⟩ (by omega) 23 rfl rfl ⟨rfl, trivial⟩ rfl rfl
    ·
      refine CJ.exit ?_
      refine EJ.thenE ?_
      refine EJ.thenE ?_
      refine EJ.inE ?_
      refine EJ.thenN (hK5 ?_)
      refine CJ.seq fun _ hK14 _ => ?_
      refine CJ.region ?_
      refine J.p (PR.assign rfl) rfl ?_
      refine J.nil ?_
      refine EJ.thenN (hK14 ?_)
      refine CJ.ret ?_
      refine EJ.ret1 rfl (Res.tmp rfl) fun w hH => ?_
      exact ⟨rb (by rw [decide_eq_true hlen, mpsOk_good (fun j hj => hI j (by omega))]; rfl), hH⟩
end Go.Proofs.Ytpojpokldncglaa.G
namespace Go.Proofs.Ytpojpokldncglaa.G
open Go Go.RowKit
namespace Qk
theorem u107 : Try.prog.underlying 107 = some (TypeDesc.map 94 2) := by kernel_rfl
theorem u190 : Try.prog.underlying 190 = some (TypeDesc.slice 107) := by kernel_rfl
theorem u193 : Try.prog.underlying 193 = some (TypeDesc.struct #[{ name := "from", type := 22, offset := 0, embedded := false, tag := "", pkgPath := "loop.example/g01219/impl", byteOffset := 0 }, { name := "to", type := 22, offset := 1, embedded := false, tag := "", pkgPath := "loop.example/g01219/impl", byteOffset := 24 }, { name := "images", type := 190, offset := 2, embedded := false, tag := "", pkgPath := "loop.example/g01219/impl", byteOffset := 48 }, { name := "known", type := 191, offset := 3, embedded := false, tag := "", pkgPath := "loop.example/g01219/impl", byteOffset := 72 }]) := by kernel_rfl
theorem u22 : Try.prog.underlying 22 = some (TypeDesc.slice 2) := by kernel_rfl
theorem u29 : Try.prog.underlying 29 = some (TypeDesc.struct #[{ name := "Terms", type := 27, offset := 0, embedded := false, tag := "", pkgPath := "", byteOffset := 0 }]) := by kernel_rfl
theorem u39 : Try.prog.underlying 39 = some (TypeDesc.slice 29) := by kernel_rfl
theorem u41 : Try.prog.underlying 41 = some (TypeDesc.struct #[{ name := "Degrees", type := 22, offset := 0, embedded := false, tag := "", pkgPath := "", byteOffset := 0 }, { name := "Images", type := 39, offset := 1, embedded := false, tag := "", pkgPath := "", byteOffset := 24 }]) := by kernel_rfl
theorem sz107 : Size Try.prog 107 1 := by unfold Size; kernel_rfl
theorem sz190 : Size Try.prog 190 1 := by unfold Size; kernel_rfl
theorem sz22 : Size Try.prog 22 1 := by unfold Size; kernel_rfl
theorem sz29 : Size Try.prog 29 1 := by unfold Size; kernel_rfl
theorem sz39 : Size Try.prog 39 1 := by unfold Size; kernel_rfl
theorem ze29 : Zero Try.prog 29 [.slice none 0 0] := by unfold Zero; kernel_rfl
theorem pl107 : Plain Try.prog 107 := ⟨_, u107, rfl⟩
theorem pl190 : Plain Try.prog 190 := ⟨_, u190, rfl⟩
theorem pl22 : Plain Try.prog 22 := ⟨_, u22, rfl⟩
theorem pl39 : Plain Try.prog 39 := ⟨_, u39, rfl⟩
theorem ag29 : Agg Try.prog 29 1 := ⟨_, u29, rfl, by kernel_rfl⟩
theorem fn181 : Fn Try.prog 181 := ⟨_, Try.func181, by kernel_rfl, rfl⟩
theorem fn182 : Fn Try.prog 182 := ⟨_, Try.func182, by kernel_rfl, rfl⟩
theorem fn183 : Fn Try.prog 183 := ⟨_, Try.func183, by kernel_rfl, rfl⟩
theorem fn95 : Fn Try.prog 95 := ⟨_, Try.func95, by kernel_rfl, rfl⟩
theorem fn96 : Fn Try.prog 96 := ⟨_, Try.func96, by kernel_rfl, rfl⟩
theorem foll0 : Try.prog.follows .mixedOrders = true := by kernel_rfl
end Qk
open Qk
section
variable {P : Program} {ops : Array Oper} {Q : Exit → Act → World → Prop} {n : Nat} {B : World} {H0 H : HP} {rest : List Oper} {us : List (Nat × Value)} {L L' : List SA}
theorem J.reH (g : ∀ w, Hp B H0 H L w → Hp B H0 H L' w) (h : J P ops Q n B H0 rest us H L') : J P ops Q n B H0 rest us H L := fun a w hF hH => h a w hF (g w hH)
end
set_option maxHeartbeats 8000000 in
set_option maxRecDepth 10000 in
theorem keeps_c {B : World} {H0 H : HP} {L : List SA} {w : World} {ba : Nat} {qad qaf : Option Addr} {cad caf : Nat} {ad : List Int} {af : List (List Term)} {bb : Nat} {qbd qbf : Option Addr} {cbd cbf : Nat} {bd : List Int} {bf : List (List Term)} {qms : Option Addr} {cms : Nat} {ms : List (List Term)}  (pad : CellAt H ba 0 (.slice qad ad.length cad)) (paf : CellAt H ba 1 (.slice qaf af.length caf)) (had : Ints H qad ad) (haf : Forms H qaf af) (pbd : CellAt H bb 0 (.slice qbd bd.length cbd)) (pbf : CellAt H bb 1 (.slice qbf bf.length cbf)) (hbd : Ints H qbd bd) (hbf : Forms H qbf bf) (hms : Forms H qms ms) (hAa : isAlg ad af = true) (hBb : isAlg bd bf = true) (hlen : ms.length = ad.length) (hM9 : mpsOk bd ms ad = true) (hH : Hp B H0 H L w) :
    Calls Try.prog 164 [.pointer (some ⟨ba, 0, none⟩), .pointer (some ⟨bb, 0, none⟩), .slice qms ms.length cms].toArray w fun e w' => e = .returned (.bool (kps bd bf ms af)) ∧ Hp B H0 H L w' := by
  refine CJ.enter Try.func164 rfl 46 rfl rfl [(0, .pointer (some ⟨ba, 0, none⟩)), (1, .pointer (some ⟨bb, 0, none⟩)), (2, .slice qms ms.length cms)] rfl hH ?_
  have hw0 := hH.old
  have hw1 := hH.le
  clear hH
  have hAo := isAlg_ok hAa haf.wfss
  have hBo := isAlg_ok hBb hbf.wfss
  have hn := hBo.hn
  have hd := hBo.hd
  have hal := hAo.hl
  have han := hAo.hn
  have hmf : Fok 20 ms := fun i hi => ⟨isForm_sok (hms.wfss.fm i) (Bool.and_eq_true_iff.1 (mpsOk_at hM9 hi)).1, by have := isForm_len4 (Bool.and_eq_true_iff.1 (mpsOk_at hM9 hi)).1; omega⟩
  refine CJ.seq fun _ hK1 _ => ?_
  refine CJ.region ?_
  refine J.p (PR.assign rfl) rfl ?_
  refine J.nil ?_
  refine EJ.thenN (hK1 ?_)
  refine CJ.seq fun _ hK2 _ => ?_
  refine CJ.head [[], [0], [1], [2], [], [4], [5], [6], []] (by kernel_rfl) ?_
  refine HJ.op (fun gh => PR.move rfl) ?_
  refine HJ.op (fun gh => PR.nilCheck rfl) ?_
  refine HJ.op (fun gh => PR.fldA u41 rfl sz22 rfl) ?_
  refine HJ.op (fun gh => PR.loadH (q := some ⟨ba, 0, none⟩) (k := 0) rfl pad pl22) ?_
  refine HJ.op (fun gh => PR.move rfl) ?_
  refine HJ.op (fun gh => PR.nilCheck rfl) ?_
  refine HJ.op (fun gh => PR.fldA u41 rfl sz22 rfl) ?_
  refine HJ.op (fun gh => PR.loadH (q := some ⟨bb, 0, none⟩) (k := 0) rfl pbd pl22) ?_
  refine HJ.op (fun gh => PR.move rfl) ?_
  refine HJ.close 9 1 foll0 (by kernel_rfl) rfl rfl fun gh => ?_
  refine J.conv (us' := (10, _) :: (11, _) :: (12, _) :: (13, _) :: (14, _) :: (15, _) :: (16, _) :: (17, _) :: (18, _) :: _) (L' := _) rfl rfl ?_
  refine J.call fn181 rfl rfl fun w hH => (leaderOf_c had hbd hms hmf (by omega) hH).mono ?_
  rintro _ w ⟨g19, q19, c19, bs19, kb19, rfl, hH⟩
  refine ⟨_, rfl, fun a hF => J.of hF hH ?_⟩
  refine J.nil ?_
  refine EJ.still ?_
  refine JS.op (PR.assign rfl) rfl ?_
  refine JS.nil ?_
  refine EJ.thenN (hK2 ?_)
  refine CJ.seq fun _ hK3 _ => ?_
  refine CJ.seq fun _ hK4 _ => ?_
  refine CJ.region ?_
  refine J.freezeRow .z fun H7 hle7 hc7 => ?_
  refine J.fixA .z fun H8 hle8 hA8 => ?_
  refine J.fixA .z fun H9 hle9 hA9 => ?_
  refine J.reH (fun w hH => Hp.knw0 (f := kF bd (ssF ms)) (vs := nilVs) (hH.front .z)) ?_
  have hle79 := hle8.trans hle9
  have pl0 : CellAt H9 g19 0 (.slice qad ad.length cad) := CellAt.le (hc7 0 _ rfl) hle79
  have pl1 : CellAt H9 g19 1 (.slice qbd bd.length cbd) := CellAt.le (hc7 1 _ rfl) hle79
  have pl2 : CellAt H9 g19 2 (.slice q19 ms.length c19) := CellAt.le (hc7 2 _ rfl) hle79
  have pl3 : CellAt H9 g19 3 (.map (some kb19)) := CellAt.le (hc7 3 _ rfl) hle79
  have hli : ImR H9 q19 (ms.length) (ssF ms) := fun i hi => ⟨bs19 i, own_reads hA9 i _ (mapsC_get hi), (imgs_H hA8 hi).le hle9⟩
  replace pad := pad.le hle7
  replace paf := paf.le hle7
  replace had := had.le hle7
  replace haf := haf.le hle7
  replace pbd := pbd.le hle7
  replace pbf := pbf.le hle7
  replace hbd := hbd.le hle7
  replace hbf := hbf.le hle7
  replace hms := hms.le hle7
  replace pad := pad.le hle8
  replace paf := paf.le hle8
  replace had := had.le hle8
  replace haf := haf.le hle8
  replace pbd := pbd.le hle8
  replace pbf := pbf.le hle8
  replace hbd := hbd.le hle8
  replace hbf := hbf.le hle8
  replace hms := hms.le hle8
  replace pad := pad.le hle9
  replace paf := paf.le hle9
  replace had := had.le hle9
  replace haf := haf.le hle9
  replace pbd := pbd.le hle9
  replace pbf := pbf.le hle9
  replace hbd := hbd.le hle9
  replace hbf := hbf.le hle9
  replace hms := hms.le hle9
  refine J.p (PR.move rfl) rfl ?_
  refine J.p (PR.nilCheck rfl) rfl ?_
  refine J.p (PR.fldA u41 rfl sz39 rfl) rfl ?_
  refine J.p (PR.loadH (q := some ⟨ba, 0, none⟩) (k := 1) rfl paf pl39) rfl ?_
  refine J.p (PR.lenSlice u39 rfl rfl) rfl ?_
  refine J.p (PR.move rfl) rfl ?_
  refine J.nil ?_
  refine EJ.thenN (hK4 ?_)
  refine CJ.block ?_
  refine CJ.loopU (σ := Nat × Vs × Nat) (fun ⟨km, kv, i⟩ => [(25, .int .i64 (i : Int))]) (fun ⟨km, kv, i⟩ => H9) (fun ⟨km, kv, i⟩ => knw (kF bd (ssF ms)) kb19 km kv :: L) (fun ⟨km, kv, i⟩ => i ≤ af.length ∧ ∀ j, j < i → (kpS bd bf ms af j).length = 0) (fun ⟨km, kv, i⟩ => af.length - i) (0, nilVs, 0) ⟨by omega, fun j hj => by omega⟩ ⟨rfl, trivial⟩ rfl rfl ?_
  rintro ⟨km, kv, i⟩ ⟨hi, hI⟩ _ hAg0
  refine CJ.seq fun _ hK5 _ => ?_
  refine CJ.region ?_
  refine J.p (PR.lss rfl rfl) rfl ?_
  refine J.nil ?_
  refine EJ.thenN (hK5 ?_)
  refine CJ.seq fun _ hK6 _ => ?_
  refine CJ.condD rfl (fun h26 => ?_) (fun h26 => ?_)
  ·
    have hka : i < af.length := by omega
    have hLd := Ld.map hAa (isAlg_deg hBb) haf.wfss hms.wfss hlen (fun j hj => mpsOk_at hM9 hj) hka
    rw [hlen] at hLd
    have hls := hLd.lead
    have hls6 : Sok 60 _ := hls.mono (by omega)
    have hka4 := isForm_sok (haf.wfss.fm i) (hAo.ok i hka)
    have ha4 := isForm_len4 (hAo.ok i hka)
    have hm5 := (Bool.and_eq_true_iff.1 (mpsOk_at hM9 (show i < ms.length by omega))).1
    have hms9 := isForm_sok (hms.wfss.fm i) hm5
    have hmk := isForm_kex hd hn (hms.wfss.fm i) hm5
    have hoc := Ex.occ hmk hBo.hl
    have hds := dS_sok (ds := bd) hms9 hBo.fok hoc
    obtain ⟨gi, hgi, hsi⟩ := hli i (by omega)
    refine CJ.skip ?_
    refine EJ.thenN (hK6 ?_)
    refine CJ.seq fun _ hK7 _ => ?_
    refine CJ.block ?_
    refine CJ.seq fun _ hK8 _ => ?_
    refine CJ.region ?_
    refine J.p (PR.move rfl) rfl ?_
    refine J.p (PR.idx1 u39 sz29 rfl rfl rfl (by omega) haf.sm) rfl ?_
    obtain ⟨qe29, ce29, he29, le29, Fe29⟩ := haf i (by omega)
    refine J.p (PR.loadHagg (cs := [_]) rfl (one_cell he29) (haf.sm (i := i) (by omega)) ag29) rfl ?_
    refine J.alloc ze29 rfl fun g9 => ?_
    refine J.p (PR.assign rfl) rfl ?_
    refine J.storeAll rfl rfl (by first | exact bytesC_one _ | exact intsC_one _ | exact Term.c_one _ | simp [Value.oneCell']) (by simpa [*] using sz29) (by simp [*]) At.z ?_
    refine J.nil ?_
    refine EJ.thenN (hK8 ?_)
    refine CJ.seq fun _ hK9 _ => ?_
    refine CJ.openR (Rs := [_, _]) 15 [[], [], [1], [0, 1, 2], [], [], [5], [5, 6], [5, 6, 7], [], [5, 6, 7, 8, 9], [5, 6, 7, 8, 9, 10], [0, 1, 2, 3, 4, 5, 6, 7, 8, 9, 10, 11], [0, 1, 2, 3, 4, 5, 6, 7, 8, 9, 10, 11, 12], [0, 1, 2, 3, 4, 5, 6, 7, 8, 9, 10, 11, 12, 13]] [[], [15], [], [2], [], [], [], [], [], [], [], [], [], [3, 12], []] [[], [], [], [16], [], [], [], [], [], [], [], [], [], [], []] rfl rfl (by kernel_rfl) ?_
    apply GJ.st0 1 rfl
    iterate 3 focus (intros; (conv => lhs; simp only [slotsZ, zlAt, vs0, resL, at2, eq_self, Nat.reduceEqDiff, reduceIte, Nat.reduceSub, Nat.reduceAdd, List.cons_append, List.nil_append]); all_goals rfl)
    ·
      intro gh X K zq zc zq2 zc2 zb zv hK
      refine J.p (PR.move rfl) rfl ?_
      refine J.nilK ?_
      exact hK zq zc zq2 zc2 zb zv
    ·
      intro gh gh' h
      rfl
    apply GJ.st0 2 rfl
    iterate 3 focus (intros; (conv => lhs; simp only [slotsZ, zlAt, vs0, resL, at2, eq_self, Nat.reduceEqDiff, reduceIte, Nat.reduceSub, Nat.reduceAdd, List.cons_append, List.nil_append]); all_goals rfl)
    ·
      intro gh X K zq zc zq2 zc2 zb zv hK
      refine J.p (PR.loadAll rfl At.z (by simpa [*] using ag29)) rfl ?_
      refine J.nilK ?_
      exact hK zq zc zq2 zc2 zb zv
    ·
      intro gh gh' h
      rfl
    apply GJ.st1 3 rfl
    iterate 3 focus (intros; (conv => lhs; simp only [slotsZ, zlAt, vs0, resL, at2, eq_self, Nat.reduceEqDiff, reduceIte, Nat.reduceSub, Nat.reduceAdd, List.cons_append, List.nil_append]); all_goals rfl)
    ·
      intro gh X K zq zc zq2 zc2 zb zv hK
      refine J.call fn96 rfl rfl fun w hH => (sumOf_c Fe29 hka4 (by omega) hH).mono ?_
      rintro _ w ⟨bo32, rfl, hH⟩
      refine ⟨_, rfl, fun a hF => J.of hF hH ?_⟩
      refine J.nilK ?_
      exact hK zq zc zq2 zc2 bo32 zv
    ·
      intro gh gh' h
      refine ⟨?_, ?_⟩ <;> rfl
    apply GJ.st2 4 rfl
    iterate 3 focus (intros; (conv => lhs; simp only [slotsZ, zlAt, vs0, resL, at2, eq_self, Nat.reduceEqDiff, reduceIte, Nat.reduceSub, Nat.reduceAdd, List.cons_append, List.nil_append]); all_goals rfl)
    ·
      intro gh X K zq zc zq2 zc2 zb zv hK
      refine J.call fn182 rfl rfl fun w hH => hH.lend (.s .z) fun Hl1 hle1 hA1 hB1 hH => (leadTo_c (pl0.le hle1) (pl1.le hle1) (pl2.le hle1) (pl3.le hle1) (had.le hle1) (hbd.le hle1) (hli.le hle1) (omap_H hA1) hka4 hLd (by omega) (by omega) (by omega) (hH.front .z)).mono ?_
      rintro _ w ⟨bo33, mo33, vo33, rfl, hH⟩
      replace hH := hB1 _ _ hH
      refine ⟨_, rfl, fun a hF => J.of hF hH ?_⟩
      refine EJ.front .z ?_
      refine EJ.front (.s (.s .z)) ?_
      refine EJ.front (.s (.s .z)) ?_
      refine J.nilK ?_
      exact hK zq mo33 zq2 zc2 bo33 vo33
    ·
      intro gh gh' h
      refine ⟨?_, ?_, ?_⟩ <;> (first | simp only [h 2 rfl] | rfl)
    apply GJ.st0 5 rfl
    iterate 3 focus (intros; (conv => lhs; simp only [slotsZ, zlAt, vs0, resL, at2, eq_self, Nat.reduceEqDiff, reduceIte, Nat.reduceSub, Nat.reduceAdd, List.cons_append, List.nil_append]); all_goals rfl)
    ·
      intro gh X K zq zc zq2 zc2 zb zv hK
      refine J.p (PR.move rfl) rfl ?_
      refine J.nilK ?_
      exact hK zq zc zq2 zc2 zb zv
    ·
      intro gh gh' h
      rfl
    apply GJ.st0 6 rfl
    iterate 3 focus (intros; (conv => lhs; simp only [slotsZ, zlAt, vs0, resL, at2, eq_self, Nat.reduceEqDiff, reduceIte, Nat.reduceSub, Nat.reduceAdd, List.cons_append, List.nil_append]); all_goals rfl)
    ·
      intro gh X K zq zc zq2 zc2 zb zv hK
      refine J.p (PR.move rfl) rfl ?_
      refine J.nilK ?_
      exact hK zq zc zq2 zc2 zb zv
    ·
      intro gh gh' h
      rfl
    apply GJ.st0 7 rfl
    iterate 3 focus (intros; (conv => lhs; simp only [slotsZ, zlAt, vs0, resL, at2, eq_self, Nat.reduceEqDiff, reduceIte, Nat.reduceSub, Nat.reduceAdd, List.cons_append, List.nil_append]); all_goals rfl)
    ·
      intro gh X K zq zc zq2 zc2 zb zv hK
      refine J.p (PR.nilCheck rfl) rfl ?_
      refine J.nilK ?_
      exact hK zq zc zq2 zc2 zb zv
    ·
      intro gh gh' h
      rfl
    apply GJ.st0 8 rfl
    iterate 3 focus (intros; (conv => lhs; simp only [slotsZ, zlAt, vs0, resL, at2, eq_self, Nat.reduceEqDiff, reduceIte, Nat.reduceSub, Nat.reduceAdd, List.cons_append, List.nil_append]); all_goals rfl)
    ·
      intro gh X K zq zc zq2 zc2 zb zv hK
      refine J.p (PR.fldA u193 rfl sz190 rfl) rfl ?_
      refine J.nilK ?_
      exact hK zq zc zq2 zc2 zb zv
    ·
      intro gh gh' h
      rfl
    apply GJ.st0 9 rfl
    iterate 3 focus (intros; (conv => lhs; simp only [slotsZ, zlAt, vs0, resL, at2, eq_self, Nat.reduceEqDiff, reduceIte, Nat.reduceSub, Nat.reduceAdd, List.cons_append, List.nil_append]); all_goals rfl)
    ·
      intro gh X K zq zc zq2 zc2 zb zv hK
      refine J.p (PR.loadH (q := some ⟨g19, 0, none⟩) (k := 2) rfl pl2 pl190) rfl ?_
      refine J.nilK ?_
      exact hK zq zc zq2 zc2 zb zv
    ·
      intro gh gh' h
      rfl
    apply GJ.st0 10 rfl
    iterate 3 focus (intros; (conv => lhs; simp only [slotsZ, zlAt, vs0, resL, at2, eq_self, Nat.reduceEqDiff, reduceIte, Nat.reduceSub, Nat.reduceAdd, List.cons_append, List.nil_append]); all_goals rfl)
    ·
      intro gh X K zq zc zq2 zc2 zb zv hK
      refine J.p (PR.move rfl) rfl ?_
      refine J.nilK ?_
      exact hK zq zc zq2 zc2 zb zv
    ·
      intro gh gh' h
      rfl
    apply GJ.st0 11 rfl
    iterate 3 focus (intros; (conv => lhs; simp only [slotsZ, zlAt, vs0, resL, at2, eq_self, Nat.reduceEqDiff, reduceIte, Nat.reduceSub, Nat.reduceAdd, List.cons_append, List.nil_append]); all_goals rfl)
    ·
      intro gh X K zq zc zq2 zc2 zb zv hK
      refine J.p (PR.idx1 (i' := i) u190 sz107 rfl rfl rfl (by omega) hli.sm) rfl ?_
      refine J.nilK ?_
      exact hK zq zc zq2 zc2 zb zv
    ·
      intro gh gh' h
      rfl
    apply GJ.st0 12 rfl
    iterate 3 focus (intros; (conv => lhs; simp only [slotsZ, zlAt, vs0, resL, at2, eq_self, Nat.reduceEqDiff, reduceIte, Nat.reduceSub, Nat.reduceAdd, List.cons_append, List.nil_append]); all_goals rfl)
    ·
      intro gh X K zq zc zq2 zc2 zb zv hK
      refine J.p (PR.loadH rfl hgi pl107) rfl ?_
      refine J.nilK ?_
      exact hK zq zc zq2 zc2 zb zv
    ·
      intro gh gh' h
      rfl
    apply GJ.st1 13 rfl
    iterate 3 focus (intros; (conv => lhs; simp only [slotsZ, zlAt, vs0, resL, at2, eq_self, Nat.reduceEqDiff, reduceIte, Nat.reduceSub, Nat.reduceAdd, List.cons_append, List.nil_append]); all_goals rfl)
    ·
      intro gh X K zq zc zq2 zc2 zb zv hK
      refine J.call fn95 rfl rfl fun w hH => (d_c pbd pbf hbd hbf hsi hms9 hn hd hBo.fok hBo.hl hoc (by omega) hH).mono ?_
      rintro _ w ⟨bo42, rfl, hH⟩
      refine ⟨_, rfl, fun a hF => J.of hF hH ?_⟩
      refine J.nilK ?_
      exact hK zq zc zq2 zc2 bo42 zv
    ·
      intro gh gh' h
      refine ⟨?_, ?_⟩ <;> (first | simp only [h 2 rfl, h 3 rfl] | rfl)
    apply GJ.st0 14 rfl
    iterate 3 focus (intros; (conv => lhs; simp only [slotsZ, zlAt, vs0, resL, at2, eq_self, Nat.reduceEqDiff, reduceIte, Nat.reduceSub, Nat.reduceAdd, List.cons_append, List.nil_append]); all_goals rfl)
    ·
      intro gh X K zq zc zq2 zc2 zb zv hK
      refine J.call fn183 rfl rfl fun w hH => hH.lend .z fun Hl1 hle1 hA1 hB1 hH => hH.lend (.s .z) fun Hl2 hle2 hA2 hB2 hH => (same_c ((omap_H hA1).le hle2) hls6 (omap_H hA2) hds (by omega) (by omega) hH).mono ?_
      rintro _ w ⟨rfl, hH⟩
      replace hH := hB2 _ _ hH
      replace hH := hB1 _ _ hH
      refine ⟨_, rfl, fun a hF => J.of hF hH ?_⟩
      refine EJ.front (.s .z) ?_
      refine EJ.front (.s (.s .z)) ?_
      refine EJ.front (.s (.s .z)) ?_
      refine J.nilK ?_
      exact hK zq zc zq2 zc2 zb zv
    ·
      intro gh gh' h
      first | simp only [h 2 rfl, h 3 rfl, h 12 rfl] | rfl
    apply GJ.st0 15 rfl
    iterate 3 focus (intros; (conv => lhs; simp only [slotsZ, zlAt, vs0, resL, at2, eq_self, Nat.reduceEqDiff, reduceIte, Nat.reduceSub, Nat.reduceAdd, List.cons_append, List.nil_append]); all_goals rfl)
    ·
      intro gh X K zq zc zq2 zc2 zb zv hK
      refine J.p (PR.not rfl) rfl ?_
      refine J.nilK ?_
      exact hK zq zc zq2 zc2 zb zv
    ·
      intro gh gh' h
      first | simp only [h 2 rfl, h 3 rfl, h 12 rfl] | rfl
    apply GJ.close [0, 1, 2, 3, 4, 5, 6, 7, 8, 9, 10, 11, 12, 13, 14] [0, 1, 2, 3, 4, 5, 6, 7, 8, 9, 10, 11, 12, 13, 14, 15] foll0 rfl rfl rfl (by rfl)
    iterate 2 focus (intros; (conv => lhs; simp only [slotsZ, zlAt, vs0, resL, at2, eq_self, Nat.reduceEqDiff, reduceIte, Nat.reduceSub, Nat.reduceAdd, List.cons_append, List.nil_append]); all_goals rfl)
    intro gh
    generalize (gh 2).b = bo32
    generalize (gh 3).b = bo33
    generalize (gh 3).c = mo33
    generalize (gh 3).vs = vo33
    generalize (gh 12).b = bo42
    clear gh
    refine EJ.thenN (hK9 ?_)
    refine CJ.cond rfl (fun h44 => ?_) (fun h44 => ?_)
    ·
      refine CJ.seq fun _ hK10 _ => ?_
      refine CJ.region ?_
      refine J.p (PR.assign rfl) rfl ?_
      refine J.nil ?_
      refine EJ.thenN (hK10 ?_)
      refine CJ.ret ?_
      refine EJ.inR ?_
      refine EJ.thenR ?_
      refine EJ.thenR ?_
      refine EJ.inR ?_
      refine EJ.thenR ?_
      refine EJ.ret1 rfl (Res.tmp rfl) fun w hH => ?_
      replace hH := hH.tail
      replace hH := hH.tail
      replace hH := hH.tail
      replace hH := hH.tail
      replace hH := hH.tail
      exact ⟨rb (by rw [kps_bad (i := i) (by omega) (by show ¬ (acc (leadS bd (ssF ms) ms.length _) _).length = 0; rw [hlen]; simpa [ssF] using h44)]), hH.weaken (hle7.trans hle79) hw0 hw1⟩
    ·
      refine CJ.skip ?_
      refine EJ.inN ?_
      refine EJ.thenN (hK7 ?_)
      refine CJ.region ?_
      refine J.p (PR.add rfl rfl (by first | exact nw _ (by omega) | rfl)) rfl ?_
      refine J.p (PR.move rfl) rfl ?_
      refine J.nil ?_
      refine EJ.thenN ?_
      refine EJ.drop .z ?_
      refine EJ.drop .z ?_
      refine EJ.drop (.s .z) ?_
      refine EJ.drop (.s .z) ?_
      exact hAg0 (mo33, vo33, i + 1) ⟨by omega, upto hI (by show (acc (leadS bd (ssF ms) ms.length _) _).length = 0; rw [hlen]; simpa [ssF] using h44)⟩ (by show af.length - (i + 1) < af.length - i; omega) 24 rfl rfl ⟨rfl, trivial⟩ rfl rfl
  ·
    refine CJ.exit ?_
    refine EJ.thenE ?_
    refine EJ.thenE ?_
    refine EJ.inE ?_
    refine EJ.thenN (hK3 ?_)
    refine CJ.seq fun _ hK11 _ => ?_
    refine CJ.region ?_
    refine J.p (PR.assign rfl) rfl ?_
    refine J.nil ?_
    refine EJ.thenN (hK11 ?_)
    refine CJ.ret ?_
    refine EJ.ret1 rfl (Res.tmp rfl) fun w hH => ?_
    replace hH := hH.tail
    exact ⟨rb (by rw [kps_good (fun j hj => hI j (by omega))]), hH.weaken (hle7.trans hle79) hw0 hw1⟩
end Go.Proofs.Ytpojpokldncglaa.G
namespace Go.Proofs.Ytpojpokldncglaa.G
open Go Go.RowKit
namespace Ql
theorem u22 : Try.prog.underlying 22 = some (TypeDesc.slice 2) := by kernel_rfl
theorem u41 : Try.prog.underlying 41 = some (TypeDesc.struct #[{ name := "Degrees", type := 22, offset := 0, embedded := false, tag := "", pkgPath := "", byteOffset := 0 }, { name := "Images", type := 39, offset := 1, embedded := false, tag := "", pkgPath := "", byteOffset := 24 }]) := by kernel_rfl
theorem sz22 : Size Try.prog 22 1 := by unfold Size; kernel_rfl
theorem pl22 : Plain Try.prog 22 := ⟨_, u22, rfl⟩
theorem ag41 : Agg Try.prog 41 2 := ⟨_, u41, rfl, by kernel_rfl⟩
theorem fn125 : Fn Try.prog 125 := ⟨_, Try.func125, by kernel_rfl, rfl⟩
theorem fn163 : Fn Try.prog 163 := ⟨_, Try.func163, by kernel_rfl, rfl⟩
theorem fn164 : Fn Try.prog 164 := ⟨_, Try.func164, by kernel_rfl, rfl⟩
theorem fn36 : Fn Try.prog 36 := ⟨_, Try.func36, by kernel_rfl, rfl⟩
theorem foll0 : Try.prog.follows .mixedOrders = true := by kernel_rfl
end Ql
open Ql
set_option maxRecDepth 10000 in
theorem isMap_c {B : World} {H0 H : HP} {L : List SA} {w : World} {ba : Nat} {qad qaf : Option Addr} {cad caf : Nat} {ad : List Int} {af : List (List Term)} {bb : Nat} {qbd qbf : Option Addr} {cbd cbf : Nat} {bd : List Int} {bf : List (List Term)} {qms : Option Addr} {cms : Nat} {ms : List (List Term)}  (pad : CellAt H ba 0 (.slice qad ad.length cad)) (paf : CellAt H ba 1 (.slice qaf af.length caf)) (had : Ints H qad ad) (haf : Forms H qaf af) (pbd : CellAt H bb 0 (.slice qbd bd.length cbd)) (pbf : CellAt H bb 1 (.slice qbf bf.length cbf)) (hbd : Ints H qbd bd) (hbf : Forms H qbf bf) (hms : Forms H qms ms) (hAa : isAlg ad af = true) (hBb : isAlg bd bf = true) (hmn : ms.length ≤ 1048576) (hml : ∀ i, i < ms.length → (fm ms i).length ≤ 1048576) (hH : Hp B H0 H L w) :
    Calls Try.prog 125 [.pointer (some ⟨ba, 0, none⟩), .pointer (some ⟨bb, 0, none⟩), .slice qms ms.length cms].toArray w fun e w' => e = .returned (.bool (decide (ms.length = ad.length) && mpsOk bd ms ad && kps bd bf ms af)) ∧ Hp B H0 H L w' := by
  refine CJ.enter Try.func125 rfl 23 rfl rfl [(0, .pointer (some ⟨ba, 0, none⟩)), (1, .pointer (some ⟨bb, 0, none⟩)), (2, .slice qms ms.length cms)] rfl hH ?_
  clear hH
  have hBo := isAlg_ok hBb hbf.wfss
  refine CJ.seq fun _ hK1 _ => ?_
  refine CJ.region ?_
  refine J.p (PR.assign rfl) rfl ?_
  refine J.nil ?_
  refine EJ.thenN (hK1 ?_)
  refine CJ.seq fun _ hK2 _ => ?_
  refine CJ.head [[], [0], [1], [2], [], [4], [5], [6], [], [3, 7, 8], [9], [10], [10], [10]] (by kernel_rfl) ?_
  refine HJ.op (fun gh => PR.move rfl) ?_
  refine HJ.op (fun gh => PR.nilCheck rfl) ?_
  refine HJ.op (fun gh => PR.fldA u41 rfl sz22 rfl) ?_
  refine HJ.op (fun gh => PR.loadH (q := some ⟨ba, 0, none⟩) (k := 0) rfl pad pl22) ?_
  refine HJ.op (fun gh => PR.move rfl) ?_
  refine HJ.op (fun gh => PR.nilCheck rfl) ?_
  refine HJ.op (fun gh => PR.fldA u41 rfl sz22 rfl) ?_
  refine HJ.op (fun gh => PR.loadH (q := some ⟨bb, 0, none⟩) (k := 0) rfl pbd pl22) ?_
  refine HJ.op (fun gh => PR.move rfl) ?_
  refine HJ.call fn163 (fun gh => rfl) (fun w X hH => isAssignment_c had hbd hms hBo.hn hBo.hd hmn hml hH) ?_
  refine HJ.op (fun gh => PR.move rfl) ?_
  refine HJ.splitB 10 rfl (fun h17 => ?_) (fun h17 => ?_)
  ·
    try have h17p := of_decide_eq_true h17
    refine HJ.gy (fun gh => PR.move rfl) rfl (fun gh => rfl) h17 ?_
    refine HJ.gy (fun gh => PR.move rfl) rfl (fun gh => rfl) h17 ?_
    refine HJ.gy (fun gh => PR.move rfl) rfl (fun gh => rfl) h17 ?_
    refine HJ.close 14 1 foll0 (by kernel_rfl) rfl rfl fun gh => ?_
    refine J.conv (us' := (7, _) :: (8, _) :: (9, _) :: (10, _) :: (11, _) :: (12, _) :: (13, _) :: (14, _) :: (15, _) :: (16, _) :: (17, _) :: (18, _) :: (19, _) :: (20, _) :: _) (L' := _) rfl rfl ?_
    refine J.gcall fn164 rfl rfl h17 rfl rfl fun w hH => (keeps_c pad paf had haf pbd pbf hbd hbf hms hAa hBb (of_decide_eq_true (Bool.and_eq_true_iff.1 h17).1) (Bool.and_eq_true_iff.1 h17).2 hH).mono ?_
    rintro _ w ⟨rfl, hH⟩
    refine ⟨_, rfl, fun a hF => J.of hF hH ?_⟩
    refine J.nil ?_
    refine EJ.still ?_
    refine JS.op (PR.pickT rfl h17 rfl) rfl ?_
    refine JS.op (PR.assign rfl) rfl ?_
    refine JS.nil ?_
    refine EJ.thenN (hK2 ?_)
    refine CJ.ret ?_
    refine EJ.ret1 rfl (Res.tmp rfl) fun w hH => ?_
    exact ⟨rb (by rw [h17]; rfl), hH⟩
  ·
    try have h17p := of_decide_eq_false h17
    refine HJ.gn rfl (fun gh => rfl) h17 ?_
    refine HJ.gn rfl (fun gh => rfl) h17 ?_
    refine HJ.gn rfl (fun gh => rfl) h17 ?_
    refine HJ.close 14 1 foll0 (by kernel_rfl) rfl rfl fun gh => ?_
    refine J.conv (us' := (7, _) :: (8, _) :: (9, _) :: (10, _) :: (11, _) :: (12, _) :: (13, _) :: (14, _) :: (15, _) :: (16, _) :: (17, _) :: (18, _) :: (19, _) :: (20, _) :: _) (L' := _) rfl rfl ?_
    refine J.gn rfl rfl rfl h17 ?_
    refine J.nil ?_
    refine EJ.still ?_
    refine JS.op (PR.pickF rfl h17 rfl) rfl ?_
    refine JS.op (PR.assign rfl) rfl ?_
    refine JS.nil ?_
    refine EJ.thenN (hK2 ?_)
    refine CJ.ret ?_
    refine EJ.ret1 rfl (Res.tmp rfl) fun w hH => ?_
    exact ⟨rb (by rw [h17]; rfl), hH⟩
set_option maxRecDepth 10000 in
theorem IsMap_c {B : World} {H0 H : HP} {L : List SA} {w : World} {qad qaf : Option Addr} {cad caf : Nat} {ad : List Int} {af : List (List Term)} {qbd qbf : Option Addr} {cbd cbf : Nat} {bd : List Int} {bf : List (List Term)} {qms : Option Addr} {cms : Nat} {ms : List (List Term)}  (had : Ints H qad ad) (haf : Forms H qaf af) (hbd : Ints H qbd bd) (hbf : Forms H qbf bf) (hms : Forms H qms ms) (hn8 : ad.length ≤ 1048576) (hn9 : af.length ≤ 1048576) (hl9 : ∀ i, i < af.length → (fm af i).length ≤ 1048576) (hbn8 : bd.length ≤ 1048576) (hbn9 : bf.length ≤ 1048576) (hbl9 : ∀ i, i < bf.length → (fm bf i).length ≤ 1048576) (hmn9 : ms.length ≤ 1048576) (hml9 : ∀ i, i < ms.length → (fm ms i).length ≤ 1048576) (hH : Hp B H0 H L w) :
    Calls Try.prog 67 [.agg [.slice qad ad.length cad, .slice qaf af.length caf].toArray, .agg [.slice qbd bd.length cbd, .slice qbf bf.length cbf].toArray, .slice qms ms.length cms].toArray w fun e w' => e = .returned (.bool (isMp ad af bd bf ms)) ∧ Hp B H0 H L w' := by
  refine CJ.enter Try.func67 rfl 17 rfl rfl [(0, .agg [.slice qad ad.length cad, .slice qaf af.length caf].toArray), (1, .agg [.slice qbd bd.length cbd, .slice qbf bf.length cbf].toArray), (2, .slice qms ms.length cms)] rfl hH ?_
  have hw0 := hH.old
  have hw1 := hH.le
  clear hH
  refine CJ.seq fun _ hK1 _ => ?_
  refine CJ.region ?_
  refine J.box rfl rfl rfl fun g3 => ?_
  refine J.box rfl rfl rfl fun g4 => ?_
  refine J.p (PR.assign rfl) rfl ?_
  refine J.nil ?_
  refine EJ.thenN (hK1 ?_)
  refine CJ.seq fun _ hK2 _ => ?_
  refine CJ.region ?_
  refine J.freezeRow (.s .z) fun H7 hle7 hc7 => ?_
  replace had := had.le hle7
  replace haf := haf.le hle7
  replace hbd := hbd.le hle7
  replace hbf := hbf.le hle7
  replace hms := hms.le hle7
  refine J.freezeRow .z fun H8 hle8 hc8 => ?_
  replace had := had.le hle8
  replace haf := haf.le hle8
  replace hbd := hbd.le hle8
  replace hbf := hbf.le hle8
  replace hms := hms.le hle8
  have hle78 := hle7.trans hle8
  have pad : CellAt H8 g3 0 (.slice qad ad.length cad) := CellAt.le (hc7 0 _ rfl) hle8
  have paf : CellAt H8 g3 1 (.slice qaf af.length caf) := CellAt.le (hc7 1 _ rfl) hle8
  have pbd : CellAt H8 g4 0 (.slice qbd bd.length cbd) := hc8 0 _ rfl
  have pbf : CellAt H8 g4 1 (.slice qbf bf.length cbf) := hc8 1 _ rfl
  refine J.p (PR.loadHb rfl pad paf ag41) rfl ?_
  refine J.call fn36 rfl rfl fun w hH => (IsAlgebra_c had haf (by omega) (by omega) hl9 hH).mono ?_
  rintro _ w ⟨rfl, hH⟩
  refine ⟨_, rfl, fun a hF => J.of hF hH ?_⟩
  refine J.p (PR.move rfl) rfl ?_
  refine J.splitB (jd := 9) rfl (fun h9 => ?_) (fun h9 => ?_)
  ·
    try have h9p := of_decide_eq_true h9
    refine J.gy (PR.loadHb rfl pbd pbf ag41) rfl rfl rfl h9 ?_
    refine J.gcall fn36 rfl rfl h9 rfl rfl fun w hH => (IsAlgebra_c hbd hbf (by omega) (by omega) hbl9 hH).mono ?_
    rintro _ w ⟨rfl, hH⟩
    refine ⟨_, rfl, fun a hF => J.of hF hH ?_⟩
    refine J.p (PR.pickT rfl h9 rfl) rfl ?_
    refine J.p (PR.move rfl) rfl ?_
    refine J.splitB (jd := 13) rfl (fun h13 => ?_) (fun h13 => ?_)
    ·
      try have h13p := of_decide_eq_true h13
      refine J.gy (PR.move rfl) rfl rfl rfl h13 ?_
      refine J.gcall fn125 rfl rfl h13 rfl rfl fun w hH => (isMap_c pad paf had haf pbd pbf hbd hbf hms (by simpa using h9) (by simpa using h13) (by omega) hml9 hH).mono ?_
      rintro _ w ⟨rfl, hH⟩
      refine ⟨_, rfl, fun a hF => J.of hF hH ?_⟩
      refine J.p (PR.pickT rfl h13 rfl) rfl ?_
      refine J.p (PR.assign rfl) rfl ?_
      refine J.nil ?_
      refine EJ.thenN (hK2 ?_)
      refine CJ.ret ?_
      refine EJ.ret1 rfl (Res.tmp rfl) fun w hH => ?_
      exact ⟨rb (by unfold isMp; rw [h9, h13]; rfl), hH.weaken hle78 hw0 hw1⟩
    ·
      try have h13p := of_decide_eq_false h13
      refine J.gn rfl rfl rfl h13 ?_
      refine J.gn rfl rfl rfl h13 ?_
      refine J.p (PR.pickF rfl h13 rfl) rfl ?_
      refine J.p (PR.assign rfl) rfl ?_
      refine J.nil ?_
      refine EJ.thenN (hK2 ?_)
      refine CJ.ret ?_
      refine EJ.ret1 rfl (Res.tmp rfl) fun w hH => ?_
      exact ⟨rb (by unfold isMp; rw [h9, h13]; rfl), hH.weaken hle78 hw0 hw1⟩
  ·
    try have h9p := of_decide_eq_false h9
    refine J.gn rfl rfl rfl h9 ?_
    refine J.gn rfl rfl rfl h9 ?_
    refine J.p (PR.pickF rfl h9 rfl) rfl ?_
    refine J.p (PR.move rfl) rfl ?_
    refine J.gn rfl rfl rfl rfl ?_
    refine J.gn rfl rfl rfl rfl ?_
    refine J.p (PR.pickF rfl rfl rfl) rfl ?_
    refine J.p (PR.assign rfl) rfl ?_
    refine J.nil ?_
    refine EJ.thenN (hK2 ?_)
    refine CJ.ret ?_
    refine EJ.ret1 rfl (Res.tmp rfl) fun w hH => ?_
    exact ⟨rb (by unfold isMp; rw [h9]; rfl), hH.weaken hle78 hw0 hw1⟩
end Go.Proofs.Ytpojpokldncglaa.G
namespace Go.Proofs.Ytpojpokldncglaa.G
open Go Go.RowKit
namespace Qm
theorem u22 : Try.prog.underlying 22 = some (TypeDesc.slice 2) := by kernel_rfl
theorem u29 : Try.prog.underlying 29 = some (TypeDesc.struct #[{ name := "Terms", type := 27, offset := 0, embedded := false, tag := "", pkgPath := "", byteOffset := 0 }]) := by kernel_rfl
theorem u39 : Try.prog.underlying 39 = some (TypeDesc.slice 29) := by kernel_rfl
theorem u41 : Try.prog.underlying 41 = some (TypeDesc.struct #[{ name := "Degrees", type := 22, offset := 0, embedded := false, tag := "", pkgPath := "", byteOffset := 0 }, { name := "Images", type := 39, offset := 1, embedded := false, tag := "", pkgPath := "", byteOffset := 24 }]) := by kernel_rfl
theorem u62 : Try.prog.underlying 62 = some (TypeDesc.slice 22) := by kernel_rfl
theorem sz22 : Size Try.prog 22 1 := by unfold Size; kernel_rfl
theorem sz29 : Size Try.prog 29 1 := by unfold Size; kernel_rfl
theorem by22 : Bytes Try.prog 22 24 := by unfold Bytes; kernel_rfl
theorem ze22 : Zero Try.prog 22 [.slice none 0 0] := by unfold Zero; kernel_rfl
theorem ze29 : Zero Try.prog 29 [.slice none 0 0] := by unfold Zero; kernel_rfl
theorem pl22 : Plain Try.prog 22 := ⟨_, u22, rfl⟩
theorem ag29 : Agg Try.prog 29 1 := ⟨_, u29, rfl, by kernel_rfl⟩
theorem ag41 : Agg Try.prog 41 2 := ⟨_, u41, rfl, by kernel_rfl⟩
theorem fn107 : Fn Try.prog 107 := ⟨_, Try.func107, by kernel_rfl, rfl⟩
theorem fn124 : Fn Try.prog 124 := ⟨_, Try.func124, by kernel_rfl, rfl⟩
theorem fn126 : Fn Try.prog 126 := ⟨_, Try.func126, by kernel_rfl, rfl⟩
theorem fn127 : Fn Try.prog 127 := ⟨_, Try.func127, by kernel_rfl, rfl⟩
theorem fn67 : Fn Try.prog 67 := ⟨_, Try.func67, by kernel_rfl, rfl⟩
theorem fn75 : Fn Try.prog 75 := ⟨_, Try.func75, by kernel_rfl, rfl⟩
theorem bd41_0_1 : ∀ (q0 : Option Addr) (m0 c0 : Nat) (q1 : Option Addr) (m1 c1 : Nat) w, (Instr.build 41 #[(0, .slice q0 m0 c0), (1, .slice q1 m1 c1)]).run Try.prog w = .ok (.agg [.slice q0 m0 c0, .slice q1 m1 c1].toArray) w := fun q0 m0 c0 q1 m1 c1 _ => by kernel_rfl
theorem foll0 : Try.prog.follows .mixedOrders = true := by kernel_rfl
end Qm
open Qm
def mpC (ad : List Int) (af : List (List Term)) (bd : List Int) (bf ms : List (List Term)) : Int := if isMp ad af bd bf ms then 0 else 1
def linMV (ad : List Int) (af : List (List Term)) (bd : List Int) (bf ms : List (List Term)) : List (List Int) := if isMp ad af bd bf ms then linT bd ms else []
section
variable {ad : List Int} {af : List (List Term)} {bd : List Int} {bf ms : List (List Term)}
theorem mpC_z (h : isMp ad af bd bf ms = true) : (0 : Int) = mpC ad af bd bf ms := by unfold mpC; rw [h]; rfl
theorem mpC_o (h : isMp ad af bd bf ms = false) : (1 : Int) = mpC ad af bd bf ms := by unfold mpC; rw [h]; rfl
theorem mpC_eq (h : ¬ mpC ad af bd bf ms ≠ 0) : isMp ad af bd bf ms = true := by
  unfold mpC at h
  cases hc : isMp ad af bd bf ms with
  | true => rfl
  | false => rw [hc] at h; simp at h
theorem mpC_ne (h : mpC ad af bd bf ms ≠ 0) : isMp ad af bd bf ms = false := by
  unfold mpC at h
  cases hc : isMp ad af bd bf ms with
  | false => rfl
  | true => rw [hc] at h; simp at h
theorem linMV_yes (h : isMp ad af bd bf ms = true) : linMV ad af bd bf ms = linT bd ms := by unfold linMV; rw [if_pos h]
theorem linMV_no (h : isMp ad af bd bf ms = false) : linMV ad af bd bf ms = [] := by unfold linMV; rw [h]; rfl
theorem isMp_frm (h : isMp ad af bd bf ms = true) (ha : Wfss af) (hb : Wfss bf) (hm : Wfss ms) : FrmOk bd ms ∧ ms.length ≤ 8 := by
  unfold isMp at h
  simp only [Bool.and_eq_true, decide_eq_true_eq] at h
  have hA := isAlg_ok h.1.1 ha
  have hB := isAlg_ok h.1.2 hb
  have h8 : ms.length ≤ 8 := by have := hA.hn; omega
  exact ⟨⟨hB.hn, fun i hi => (Bool.and_eq_true_iff.1 (mpsOk_at h.2.1.2 hi)).1, hm, by omega⟩, h8⟩
theorem linMV_len (ad : List Int) (af : List (List Term)) (bd : List Int) (bf ms : List (List Term)) : (linMV ad af bd bf ms).length ≤ 8 ∧ totI (linMV ad af bd bf ms) ≤ 64 ∧ ∀ i, i < (linMV ad af bd bf ms).length → (rw_ (linMV ad af bd bf ms) i).length ≤ 1048576 := by
  cases h : isMp ad af bd bf ms with
  | false => rw [linMV_no h]; simp [totI]
  | true =>
    rw [linMV_yes h, linT_len]
    unfold isMp at h
    simp only [Bool.and_eq_true, decide_eq_true_eq] at h
    have hn := isDeg_len (isAlg_deg h.1.2)
    have hn2 := isDeg_len (isAlg_deg h.1.1)
    have hl := h.2.1.1
    refine ⟨by omega, ?_, fun i hi => ?_⟩
    · have h1 := totI_le (rs := linT bd ms) (M := 8) (fun r hr => by
        obtain ⟨ts, _, rfl⟩ := List.mem_map.1 hr
        rw [linR_len]
        exact hn)
      rw [linT_len] at h1
      have : ms.length * 8 ≤ 8 * 8 := Nat.mul_le_mul_right _ (by omega)
      omega
    · rw [linT_at hi, linR_len]
      omega
end
set_option maxRecDepth 10000 in
theorem sLinearTableOfMap_c {B : World} {H0 H : HP} {L : List SA} {w : World} {qad qaf : Option Addr} {cad caf : Nat} {ad : List Int} {af : List (List Term)} {qbd qbf : Option Addr} {cbd cbf : Nat} {bd : List Int} {bf : List (List Term)} {qms : Option Addr} {cms : Nat} {ms : List (List Term)}  (had : Ints H qad ad) (haf : Forms H qaf af) (hbd : Ints H qbd bd) (hbf : Forms H qbf bf) (hms : Forms H qms ms) (hn8 : ad.length ≤ 1048576) (hn9 : af.length ≤ 1048576) (hl9 : ∀ i, i < af.length → (fm af i).length ≤ 1048576) (hbn8 : bd.length ≤ 1048576) (hbn9 : bf.length ≤ 1048576) (hbl9 : ∀ i, i < bf.length → (fm bf i).length ≤ 1048576) (hmn9 : ms.length ≤ 1048576) (hml9 : ∀ i, i < ms.length → (fm ms i).length ≤ 1048576) (hH : Hp B H0 H L w) :
    Calls Try.prog 68 [.agg [.slice qad ad.length cad, .slice qaf af.length caf].toArray, .agg [.slice qbd bd.length cbd, .slice qbf bf.length cbf].toArray, .slice qms ms.length cms].toArray w fun e w' => ∃ q c vs, e = .returned (.tuple #[.slice q (linMV ad af bd bf ms).length c, .int .i64 (mpC ad af bd bf ms)]) ∧ Hp B H0 H (ownRs 22 2 q c vs (linMV ad af bd bf ms) :: L) w' := by
  refine CJ.enter Try.func68 rfl 18 rfl rfl [(0, .agg [.slice qad ad.length cad, .slice qaf af.length caf].toArray), (1, .agg [.slice qbd bd.length cbd, .slice qbf bf.length cbf].toArray), (2, .slice qms ms.length cms)] rfl hH ?_
  clear hH
  refine CJ.seq fun _ hK1 _ => ?_
  refine CJ.region ?_
  refine J.box rfl rfl rfl fun g3 => ?_
  refine J.box rfl rfl rfl fun g4 => ?_
  refine J.p (PR.assign rfl) rfl ?_
  refine J.p (PR.assign rfl) rfl ?_
  refine J.nil ?_
  refine EJ.thenN (hK1 ?_)
  refine CJ.seq fun _ hK2 _ => ?_
  refine CJ.seq fun _ hK3 _ => ?_
  refine CJ.region ?_
  refine J.p (PR.loadAll rfl (.s .z) (by simpa [*] using ag41)) rfl ?_
  refine J.p (PR.loadAll rfl At.z (by simpa [*] using ag41)) rfl ?_
  refine J.p (PR.move rfl) rfl ?_
  refine J.call fn124 rfl rfl fun w hH => (l04Is_c had haf hbd hbf hms hn8 hn9 hl9 hbn8 hbn9 hbl9 hmn9 hml9 hH).mono ?_
  rintro _ w ⟨rfl, hH⟩
  refine ⟨_, rfl, fun a hF => J.of hF hH ?_⟩
  refine J.p (PR.not rfl) rfl ?_
  refine J.nil ?_
  refine EJ.thenN (hK3 ?_)
  refine CJ.cond rfl (fun h12 => ?_) (fun h12 => ?_)
  ·
    have hf6 : isMp ad af bd bf ms = false := by simpa using h12
    refine CJ.seq fun _ hK4 _ => ?_
    refine CJ.region ?_
    refine J.p (PR.assign rfl) rfl ?_
    refine J.p (PR.assign rfl) rfl ?_
    refine J.nil ?_
    refine EJ.thenN (hK4 ?_)
    refine CJ.ret ?_
    refine EJ.thenR ?_
    refine EJ.ret2 rfl (Res.tmp rfl) (Res.tmp rfl) fun w hH => ?_
    replace hH := hH.sublist (.cons _ (.cons _ (List.Sublist.refl _)))
    rw [linMV_no hf6, (mpC_o hf6).symm]
    exact ⟨none, 0, nilVs, rfl, (Hp.rsNil 22 2 (hH.own0 22 1))⟩
  ·
    have hA6 : isMp ad af bd bf ms = true := by simpa using h12
    refine CJ.skip ?_
    refine EJ.thenN (hK2 ?_)
    refine CJ.seq fun _ hK5 _ => ?_
    refine CJ.region ?_
    refine J.p (PR.fldA u41 rfl sz22 rfl) rfl ?_
    refine J.p (PR.load rfl At.z rfl pl22) rfl ?_
    refine J.p (PR.move rfl) rfl ?_
    refine J.p (PR.build2 rfl rfl (fun w => bd41_0_1 _ _ _ _ _ _ w)) rfl ?_
    refine J.call fn107 rfl rfl fun w hH => (l02Linear_c hbd hms (isMp_frm hA6 haf.wfss hbf.wfss hms.wfss).1 hH).mono ?_
    rintro _ w ⟨qo17, co17, vso17, rfl, hH⟩
    refine ⟨_, rfl, fun a hF => J.of hF hH ?_⟩
    refine J.p (PR.assign rfl) rfl ?_
    refine J.p (PR.assign rfl) rfl ?_
    refine J.nil ?_
    refine EJ.thenN (hK5 ?_)
    refine CJ.ret ?_
    refine EJ.ret2 rfl (Res.tmp rfl) (Res.tmp rfl) fun w hH => ?_
    replace hH := hH.sublist (.cons_cons _ (.cons _ (.cons _ (List.Sublist.refl _))))
    rw [linMV_yes hA6, (mpC_z hA6).symm]
    exact ⟨_, _, _, rfl, hH⟩
set_option maxRecDepth 10000 in
theorem mapCode_c {B : World} {H0 H : HP} {L : List SA} {w : World} {ba : Nat} {qad qaf : Option Addr} {cad caf : Nat} {ad : List Int} {af : List (List Term)} {bb : Nat} {qbd qbf : Option Addr} {cbd cbf : Nat} {bd : List Int} {bf : List (List Term)} {qms : Option Addr} {cms : Nat} {ms : List (List Term)}  (pad : CellAt H ba 0 (.slice qad ad.length cad)) (paf : CellAt H ba 1 (.slice qaf af.length caf)) (had : Ints H qad ad) (haf : Forms H qaf af) (pbd : CellAt H bb 0 (.slice qbd bd.length cbd)) (pbf : CellAt H bb 1 (.slice qbf bf.length cbf)) (hbd : Ints H qbd bd) (hbf : Forms H qbf bf) (hms : Forms H qms ms) (hn8 : ad.length ≤ 1048576) (hn9 : af.length ≤ 1048576) (hl9 : ∀ i, i < af.length → (fm af i).length ≤ 1048576) (hbn8 : bd.length ≤ 1048576) (hbn9 : bf.length ≤ 1048576) (hbl9 : ∀ i, i < bf.length → (fm bf i).length ≤ 1048576) (hmn9 : ms.length ≤ 1048576) (hml9 : ∀ i, i < ms.length → (fm ms i).length ≤ 1048576) (hH : Hp B H0 H L w) :
    Calls Try.prog 126 [.pointer (some ⟨ba, 0, none⟩), .pointer (some ⟨bb, 0, none⟩), .slice qms ms.length cms].toArray w fun e w' => e = .returned (.int .i64 (mpC ad af bd bf ms)) ∧ Hp B H0 H L w' := by
  refine CJ.enter Try.func126 rfl 17 rfl rfl [(0, .pointer (some ⟨ba, 0, none⟩)), (1, .pointer (some ⟨bb, 0, none⟩)), (2, .slice qms ms.length cms)] rfl hH ?_
  clear hH
  refine CJ.seq fun _ hK1 _ => ?_
  refine CJ.region ?_
  refine J.p (PR.assign rfl) rfl ?_
  refine J.nil ?_
  refine EJ.thenN (hK1 ?_)
  refine CJ.seq fun _ hK2 _ => ?_
  refine CJ.head [[], [0], [1], [], [3], [4], []] (by kernel_rfl) ?_
  refine HJ.op (fun gh => PR.move rfl) ?_
  refine HJ.op (fun gh => PR.nilCheck rfl) ?_
  refine HJ.op (fun gh => PR.loadHb rfl pad paf ag41) ?_
  refine HJ.op (fun gh => PR.move rfl) ?_
  refine HJ.op (fun gh => PR.nilCheck rfl) ?_
  refine HJ.op (fun gh => PR.loadHb rfl pbd pbf ag41) ?_
  refine HJ.op (fun gh => PR.move rfl) ?_
  refine HJ.close 7 3 foll0 (by kernel_rfl) rfl rfl fun gh => ?_
  refine J.conv (us' := (7, _) :: (8, _) :: (9, _) :: (10, _) :: (11, _) :: (12, _) :: (13, _) :: _) (L' := _) rfl rfl ?_
  refine J.call fn67 rfl rfl fun w hH => (IsMap_c had haf hbd hbf hms hn8 hn9 hl9 hbn8 hbn9 hbl9 hmn9 hml9 hH).mono ?_
  rintro _ w ⟨rfl, hH⟩
  refine ⟨_, rfl, fun a hF => J.of hF hH ?_⟩
  refine J.p (PR.not rfl) rfl ?_
  refine J.call fn75 rfl rfl fun w hH => (when_c  hH).mono ?_
  rintro _ w ⟨rfl, hH⟩
  refine ⟨_, rfl, fun a hF => J.of hF hH ?_⟩
  refine J.nil ?_
  refine EJ.still ?_
  refine JS.op (PR.assign rfl) rfl ?_
  refine JS.nil ?_
  refine EJ.thenN (hK2 ?_)
  refine CJ.ret ?_
  refine EJ.ret1 rfl (Res.tmp rfl) fun w hH => ?_
  exact ⟨ri (by unfold mpC; cases isMp ad af bd bf ms <;> rfl), hH⟩
set_option maxHeartbeats 2000000 in
set_option maxRecDepth 10000 in
theorem LinearTableOfMap_c {B : World} {H0 H : HP} {L : List SA} {w : World} {qad qaf : Option Addr} {cad caf : Nat} {ad : List Int} {af : List (List Term)} {qbd qbf : Option Addr} {cbd cbf : Nat} {bd : List Int} {bf : List (List Term)} {qms : Option Addr} {cms : Nat} {ms : List (List Term)}  (had : Ints H qad ad) (haf : Forms H qaf af) (hbd : Ints H qbd bd) (hbf : Forms H qbf bf) (hms : Forms H qms ms) (hn8 : ad.length ≤ 1048576) (hn9 : af.length ≤ 1048576) (hl9 : ∀ i, i < af.length → (fm af i).length ≤ 1048576) (hbn8 : bd.length ≤ 1048576) (hbn9 : bf.length ≤ 1048576) (hbl9 : ∀ i, i < bf.length → (fm bf i).length ≤ 1048576) (hmn9 : ms.length ≤ 1048576) (hml9 : ∀ i, i < ms.length → (fm ms i).length ≤ 1048576) (hH : Hp B H0 H L w) :
    Calls Try.prog 69 [.agg [.slice qad ad.length cad, .slice qaf af.length caf].toArray, .agg [.slice qbd bd.length cbd, .slice qbf bf.length cbf].toArray, .slice qms ms.length cms].toArray w fun e w' => ∃ q c vs, e = .returned (.tuple #[.slice q (linMV ad af bd bf ms).length c, .int .i64 (mpC ad af bd bf ms)]) ∧ Hp B H0 H (ownRs 22 2 q c vs (linMV ad af bd bf ms) :: L) w' := by
  refine CJ.enter Try.func69 rfl 33 rfl rfl [(0, .agg [.slice qad ad.length cad, .slice qaf af.length caf].toArray), (1, .agg [.slice qbd bd.length cbd, .slice qbf bf.length cbf].toArray), (2, .slice qms ms.length cms)] rfl hH ?_
  have hw0 := hH.old
  have hw1 := hH.le
  clear hH
  refine CJ.seq fun _ hK1 _ => ?_
  refine CJ.region ?_
  refine J.box rfl rfl rfl fun g3 => ?_
  refine J.box rfl rfl rfl fun g4 => ?_
  refine J.p (PR.assign rfl) rfl ?_
  refine J.p (PR.assign rfl) rfl ?_
  refine J.nil ?_
  refine EJ.thenN (hK1 ?_)
  refine CJ.seq fun _ hK2 _ => ?_
  refine CJ.seq fun _ hK3 _ => ?_
  refine CJ.region ?_
  refine J.freezeRow (.s .z) fun H7 hle7 hc7 => ?_
  replace had := had.le hle7
  replace haf := haf.le hle7
  replace hbd := hbd.le hle7
  replace hbf := hbf.le hle7
  replace hms := hms.le hle7
  refine J.freezeRow .z fun H8 hle8 hc8 => ?_
  replace had := had.le hle8
  replace haf := haf.le hle8
  replace hbd := hbd.le hle8
  replace hbf := hbf.le hle8
  replace hms := hms.le hle8
  have hle78 := hle7.trans hle8
  have pad : CellAt H8 g3 0 (.slice qad ad.length cad) := CellAt.le (hc7 0 _ rfl) hle8
  have paf : CellAt H8 g3 1 (.slice qaf af.length caf) := CellAt.le (hc7 1 _ rfl) hle8
  have pbd : CellAt H8 g4 0 (.slice qbd bd.length cbd) := hc8 0 _ rfl
  have pbf : CellAt H8 g4 1 (.slice qbf bf.length cbf) := hc8 1 _ rfl
  refine J.p (PR.move rfl) rfl ?_
  refine J.call fn126 rfl rfl fun w hH => (mapCode_c pad paf had haf pbd pbf hbd hbf hms hn8 hn9 hl9 hbn8 hbn9 hbl9 hmn9 hml9 hH).mono ?_
  rintro _ w ⟨rfl, hH⟩
  refine ⟨_, rfl, fun a hF => J.of hF hH ?_⟩
  refine J.p (PR.assign rfl) rfl ?_
  refine J.nil ?_
  refine EJ.thenN (hK3 ?_)
  refine CJ.seq fun _ hK4 _ => ?_
  refine CJ.region ?_
  refine J.p (PR.move rfl) rfl ?_
  refine J.p (PR.neq rfl rfl) rfl ?_
  refine J.nil ?_
  refine EJ.thenN (hK4 ?_)
  refine CJ.condD rfl (fun h15 => ?_) (fun h15 => ?_)
  ·
    have hf6 := mpC_ne h15
    refine CJ.seq fun _ hK5 _ => ?_
    refine CJ.region ?_
    refine J.p (PR.move rfl) rfl ?_
    refine J.p (PR.assign rfl) rfl ?_
    refine J.p (PR.assign rfl) rfl ?_
    refine J.nil ?_
    refine EJ.thenN (hK5 ?_)
    refine CJ.ret ?_
    refine EJ.thenR ?_
    refine EJ.ret2 rfl (Res.tmp rfl) (Res.tmp rfl) fun w hH => ?_
    replace hH := hH.sublist (List.Sublist.refl _)
    rw [linMV_no hf6, (mpC_o hf6).symm]
    exact ⟨none, 0, nilVs, rfl, (Hp.rsNil 22 2 (hH.own0 22 1)).weaken hle78 hw0 hw1⟩
  ·
    have hA6 := mpC_eq h15
    obtain ⟨hF, hl8⟩ := isMp_frm hA6 haf.wfss hbf.wfss hms.wfss
    have hn88 := hF.hn
    refine CJ.skip ?_
    refine EJ.thenN (hK2 ?_)
    refine CJ.seq fun _ hK6 _ => ?_
    refine CJ.region ?_
    refine J.mk (MK.lit0 u62 sz22) rfl fun qo17 co17 => ?_
    refine J.is0 2 ?_
    refine J.p (PR.assign rfl) rfl ?_
    refine J.nil ?_
    refine EJ.thenN (hK6 ?_)
    refine CJ.seq fun _ hK7 _ => ?_
    refine CJ.seq fun _ hK8 _ => ?_
    refine CJ.region ?_
    refine J.p (PR.move rfl) rfl ?_
    refine J.p (PR.lenSlice u39 rfl rfl) rfl ?_
    refine J.p (PR.move rfl) rfl ?_
    refine J.nil ?_
    refine EJ.thenN (hK8 ?_)
    refine CJ.block ?_
    refine CJ.loopU (σ := Option Addr × Nat × Vs × Nat) (fun ⟨q, c, vs, k⟩ => [(20, .int .i64 (k : Int)), (9, .slice q k c)]) (fun ⟨q, c, vs, k⟩ => H8) (fun ⟨q, c, vs, k⟩ => ownIs 2 vs (linK2 bd ms k) :: own 22 1 q k c (slicesI vs (linK2 bd ms k)) :: L) (fun ⟨q, c, vs, k⟩ => k ≤ ms.length) (fun ⟨q, c, vs, k⟩ => ms.length - k) (qo17, co17, nilVs, 0) (by show 0 ≤ ms.length; omega) ⟨rfl, ⟨rfl, trivial⟩⟩ rfl rfl ?_
    rintro ⟨q, c, vs, k⟩ hk _ hAg0
    refine CJ.seq fun _ hK9 _ => ?_
    refine CJ.region ?_
    refine J.p (PR.lss rfl rfl) rfl ?_
    refine J.nil ?_
    refine EJ.thenN (hK9 ?_)
    refine CJ.seq fun _ hK10 _ => ?_
    refine CJ.condD rfl (fun hc21 => ?_) (fun hc21 => ?_)
    ·
      refine CJ.skip ?_
      refine EJ.thenN (hK10 ?_)
      refine CJ.seq fun _ hK11 _ => ?_
      refine CJ.block ?_
      refine CJ.seq fun _ hK12 _ => ?_
      refine CJ.region ?_
      refine J.p (PR.idx1 u39 sz29 rfl rfl rfl (by omega) hms.sm) rfl ?_
      obtain ⟨qe23, ce23, he23, le23, Fe23⟩ := hms k (by omega)
      refine J.p (PR.loadHagg (cs := [_]) rfl (one_cell he23) (hms.sm (i := k) (by omega)) ag29) rfl ?_
      refine J.alloc ze29 rfl fun g11 => ?_
      refine J.storeAll rfl rfl (by first | exact bytesC_one _ | exact intsC_one _ | exact Term.c_one _ | simp [Value.oneCell']) (by simpa [*] using sz29) (by simp [*]) At.z ?_
      refine J.nil ?_
      refine EJ.thenN (hK12 ?_)
      refine CJ.region ?_
      refine J.p (PR.move rfl) rfl ?_
      refine J.p (PR.fldA u41 rfl sz22 rfl) rfl ?_
      refine J.p (PR.loadH (q := some ⟨g4, 0, none⟩) (k := 0) rfl pbd pl22) rfl ?_
      refine J.p (PR.loadAll rfl At.z (by simpa [*] using ag29)) rfl ?_
      refine J.call fn127 rfl rfl fun w hH => (linearRow_c hbd Fe23 hF.hn (hF.sok (by omega)) (by have := hF.len4 (i := k) (by omega); omega) hH).mono ?_
      rintro _ w ⟨qo28, co28, rfl, hH⟩
      refine ⟨_, rfl, fun a hF => J.of hF hH ?_⟩
      refine J.mk (MK.lit1S u62 ze22 sz22 rfl rfl) rfl fun qo29 co29 => ?_
      refine J.append1 u62 ze22 sz22 by22 rfl rfl rfl rfl (by omega) .z (.s (.s (.s .z))) (fun _ _ => (.s (.s (.s .z)))) rfl fun qo30 co30 => ?_
      refine J.p (PR.assign rfl) rfl ?_
      refine J.nil ?_
      refine EJ.inN ?_
      refine EJ.thenN (hK11 ?_)
      refine CJ.region ?_
      refine J.p (PR.add rfl rfl (by first | exact nw _ (by omega) | rfl)) rfl ?_
      refine J.p (PR.move rfl) rfl ?_
      refine J.nil ?_
      refine EJ.thenN ?_
      refine EJ.front (.s (.s (.s (.s .z)))) ?_
      refine EJ.front (.s (.s (.s .z))) ?_
      refine EJ.front (.s (.s .z)) ?_
      refine EJ.front (.s (.s (.s (.s .z)))) ?_
      refine EJ.front (.s (.s (.s (.s .z)))) ?_
      refine EJ.isSnoc (rs := linK2 bd ms k) (linK2_len (by omega)) (linR_len _ _) ?_
      refine EJ.drop (.s .z) ?_
      refine EJ.drop (.s .z) ?_
      exact hAg0 (qo30, co30, setV vs k (qo28, co28), k + 1) (by show k + 1 ≤ ms.length; omega) (by show ms.length - (k + 1) < ms.length - k; omega) 16 rfl rfl ⟨rfl, ⟨rfl, trivial⟩⟩ rfl (by dsimp only; rw [linK2_succ (by omega), slicesI_set (linK2_len (by omega)), linR_len])
    ·
      refine CJ.exit ?_
      refine EJ.thenE ?_
      refine EJ.thenE ?_
      refine EJ.inE ?_
      refine EJ.thenN (hK7 ?_)
      refine CJ.seq fun _ hK13 _ => ?_
      refine CJ.region ?_
      refine J.p (PR.move rfl) rfl ?_
      refine J.p (PR.assign rfl) rfl ?_
      refine J.p (PR.assign rfl) rfl ?_
      refine J.nil ?_
      refine EJ.thenN (hK13 ?_)
      refine CJ.ret ?_
      refine EJ.ret2 rfl (Res.tmp rfl) (Res.tmp rfl) fun w hH => ?_
      replace hH := hH.sublist (.cons_cons _ (.cons_cons _ (List.Sublist.refl _)))
      obtain rfl : k = ms.length := by omega
      rw [linK2_end] at hH
      rw [linMV_yes hA6, (mpC_z hA6).symm]
      exact ⟨q, c, vs, by rw [linT_len], by unfold ownRs; rw [linT_len]; exact ((hH.front (.s .z)).star).weaken hle78 hw0 hw1⟩
end Go.Proofs.Ytpojpokldncglaa.G
namespace Go.Proofs.Ytpojpokldncglaa.G
open Go Go.RowKit
namespace Lu
theorem u41 : Try.prog.underlying 41 = some (TypeDesc.struct #[{ name := "Degrees", type := 22, offset := 0, embedded := false, tag := "", pkgPath := "", byteOffset := 0 }, { name := "Images", type := 39, offset := 1, embedded := false, tag := "", pkgPath := "", byteOffset := 24 }]) := by kernel_rfl
theorem u49 : Try.prog.underlying 49 = some (TypeDesc.struct #[{ name := "Degrees", type := 22, offset := 0, embedded := false, tag := "", pkgPath := "", byteOffset := 0 }, { name := "Images", type := 47, offset := 1, embedded := false, tag := "", pkgPath := "", byteOffset := 24 }]) := by kernel_rfl
theorem sz41 : Size Try.prog 41 2 := by unfold Size; kernel_rfl
theorem ze41 : Zero Try.prog 41 [.slice none 0 0, .slice none 0 0] := by unfold Zero; kernel_rfl
theorem ag41 : Agg Try.prog 41 2 := ⟨_, u41, rfl, by kernel_rfl⟩
theorem ag49 : Agg Try.prog 49 2 := ⟨_, u49, rfl, by kernel_rfl⟩
theorem fn30 : Fn Try.prog 30 := ⟨_, Try.func30, by kernel_rfl, rfl⟩
theorem fn31 : Fn Try.prog 31 := ⟨_, Try.func31, by kernel_rfl, rfl⟩
theorem fn33 : Fn Try.prog 33 := ⟨_, Try.func33, by kernel_rfl, rfl⟩
theorem fn35 : Fn Try.prog 35 := ⟨_, Try.func35, by kernel_rfl, rfl⟩
theorem fn48 : Fn Try.prog 48 := ⟨_, Try.func48, by kernel_rfl, rfl⟩
theorem fn49 : Fn Try.prog 49 := ⟨_, Try.func49, by kernel_rfl, rfl⟩
theorem fn50 : Fn Try.prog 50 := ⟨_, Try.func50, by kernel_rfl, rfl⟩
theorem fn55 : Fn Try.prog 55 := ⟨_, Try.func55, by kernel_rfl, rfl⟩
theorem fn56 : Fn Try.prog 56 := ⟨_, Try.func56, by kernel_rfl, rfl⟩
theorem fn64 : Fn Try.prog 64 := ⟨_, Try.func64, by kernel_rfl, rfl⟩
theorem fn66 : Fn Try.prog 66 := ⟨_, Try.func66, by kernel_rfl, rfl⟩
theorem fn68 : Fn Try.prog 68 := ⟨_, Try.func68, by kernel_rfl, rfl⟩
theorem fn69 : Fn Try.prog 69 := ⟨_, Try.func69, by kernel_rfl, rfl⟩
theorem foll0 : Try.prog.follows .mixedOrders = true := by kernel_rfl
end Lu
open Lu
set_option maxHeartbeats 8000000 in
set_option maxRecDepth 10000 in
theorem lawLinearTableOfMap_c {B : World} {H0 H : HP} {L : List SA} {w : World} {qad qaf : Option Addr} {cad caf : Nat} {ad : List Int} {af : List (List Term)} {qbd qbf : Option Addr} {cbd cbf : Nat} {bd : List Int} {bf : List (List Term)} {qms : Option Addr} {cms : Nat} {ms : List (List Term)}  (had : Ints H qad ad) (haf : Forms H qaf af) (hbd : Ints H qbd bd) (hbf : Forms H qbf bf) (hms : Forms H qms ms) (hn : ad.length ≤ 9223372036854775807 ∧ af.length ≤ 9223372036854775807) (hl : ∀ i, i < af.length → (fm af i).length ≤ 9223372036854775807) (bn : bd.length ≤ 9223372036854775807 ∧ bf.length ≤ 9223372036854775807) (bl : ∀ i, i < bf.length → (fm bf i).length ≤ 9223372036854775807) (mn : ms.length ≤ 9223372036854775807) (ml : ∀ i, i < ms.length → (fm ms i).length ≤ 9223372036854775807) (hH : Hp B H0 H L w) :
    Calls Try.prog 17 [.agg [.slice qad ad.length cad, .slice qaf af.length caf].toArray, .agg [.slice qbd bd.length cbd, .slice qbf bf.length cbf].toArray, .slice qms ms.length cms].toArray w fun e w' => e = .returned (.bool true) ∧ Below B.heap.size B w' := by
  refine CJ.enter Try.func17 rfl 142 rfl rfl [(0, .agg [.slice qad ad.length cad, .slice qaf af.length caf].toArray), (1, .agg [.slice qbd bd.length cbd, .slice qbf bf.length cbf].toArray), (2, .slice qms ms.length cms)] rfl hH ?_
  clear hH
  obtain ⟨f1, f2, f3⟩ := linMV_len ad af bd bf ms
  refine CJ.seq fun _ hK1 _ => ?_
  refine CJ.region ?_
  refine J.box rfl rfl rfl fun g3 => ?_
  refine J.box rfl rfl rfl fun g4 => ?_
  refine J.p (PR.assign rfl) rfl ?_
  refine J.nil ?_
  refine EJ.thenN (hK1 ?_)
  refine CJ.seq fun _ hK2 _ => ?_
  refine CJ.region ?_
  refine J.p (PR.assign rfl) rfl ?_
  refine J.nil ?_
  refine EJ.thenN (hK2 ?_)
  refine CJ.seq fun _ hK3 _ => ?_
  refine CJ.region ?_
  refine J.p (PR.loadAll rfl (.s .z) (by simpa [*] using ag49)) rfl ?_
  refine J.p (PR.move rfl) rfl ?_
  refine J.call fn33 rfl rfl fun w hH => (szAlgebra_c had haf (by omega) hl hH).mono ?_
  rintro _ w ⟨rfl, hH⟩
  refine ⟨_, rfl, fun a hF => J.of hF hH ?_⟩
  refine J.p (PR.assign rfl) rfl ?_
  refine J.nil ?_
  refine EJ.thenN (hK3 ?_)
  refine CJ.seq fun _ hK4 _ => ?_
  refine CJ.seq fun _ hK5 _ => ?_
  refine CJ.region ?_
  refine J.p (PR.move rfl) rfl ?_
  refine J.p (PR.lss rfl rfl) rfl ?_
  refine J.nil ?_
  refine EJ.thenN (hK5 ?_)
  refine CJ.condD rfl (fun h11 => ?_) (fun h11 => ?_)
  ·
    refine CJ.seq fun _ hK6 _ => ?_
    refine CJ.region ?_
    refine J.p (PR.assign rfl) rfl ?_
    refine J.nil ?_
    refine EJ.thenN (hK6 ?_)
    refine CJ.ret ?_
    refine EJ.thenR ?_
    refine EJ.ret1 rfl (Res.tmp rfl) fun w hH => ?_
    replace hH := hH.tail
    replace hH := hH.tail
    first | exact ⟨rfl, hH.below⟩ | exact absurd rfl h11p | exact absurd rfl h11 | (exfalso; omega) | (simp at h11; done)
  ·
    have hsz : ad.length + af.length + tot af ≤ 1048576 := by unfold szv at h11; split at h11 <;> omega
    have hl6 : ∀ i, i < af.length → (fm af i).length ≤ 1048576 := fun i hi => by have := tot_fm hi; omega
    refine CJ.skip ?_
    refine EJ.thenN (hK4 ?_)
    refine CJ.seq fun _ hK7 _ => ?_
    refine CJ.region ?_
    refine J.p (PR.loadAll rfl At.z (by simpa [*] using ag49)) rfl ?_
    refine J.p (PR.move rfl) rfl ?_
    refine J.call fn33 rfl rfl fun w hH => (szAlgebra_c hbd hbf (by unfold szv at h11 ⊢; split at h11 <;> split <;> omega) bl hH).mono ?_
    rintro _ w ⟨rfl, hH⟩
    refine ⟨_, rfl, fun a hF => J.of hF hH ?_⟩
    refine J.p (PR.assign rfl) rfl ?_
    refine J.nil ?_
    refine EJ.thenN (hK7 ?_)
    refine CJ.seq fun _ hK8 _ => ?_
    refine CJ.seq fun _ hK9 _ => ?_
    refine CJ.region ?_
    refine J.p (PR.move rfl) rfl ?_
    refine J.p (PR.lss rfl rfl) rfl ?_
    refine J.nil ?_
    refine EJ.thenN (hK9 ?_)
    refine CJ.condD rfl (fun h21 => ?_) (fun h21 => ?_)
    ·
      refine CJ.seq fun _ hK10 _ => ?_
      refine CJ.region ?_
      refine J.p (PR.assign rfl) rfl ?_
      refine J.nil ?_
      refine EJ.thenN (hK10 ?_)
      refine CJ.ret ?_
      refine EJ.thenR ?_
      refine EJ.ret1 rfl (Res.tmp rfl) fun w hH => ?_
      replace hH := hH.tail
      replace hH := hH.tail
      first | exact ⟨rfl, hH.below⟩ | exact absurd rfl h21p | exact absurd rfl h21 | (exfalso; omega) | (simp at h21; done)
    ·
      have hszb : bd.length + bf.length + tot bf ≤ 1048576 := by unfold szv at h21; split at h21 <;> (try split at h21) <;> omega
      have bl6 : ∀ i, i < bf.length → (fm bf i).length ≤ 1048576 := fun i hi => by have := tot_fm hi; omega
      refine CJ.skip ?_
      refine EJ.thenN (hK8 ?_)
      refine CJ.seq fun _ hK11 _ => ?_
      refine CJ.region ?_
      refine J.p (PR.move rfl) rfl ?_
      refine J.p (PR.move rfl) rfl ?_
      refine J.call fn64 rfl rfl fun w hH => (szFormS_c hms (by unfold szv at h21 h11 ⊢; split at h21 <;> split <;> (try split at h21) <;> (try split) <;> omega) ml hH).mono ?_
      rintro _ w ⟨rfl, hH⟩
      refine ⟨_, rfl, fun a hF => J.of hF hH ?_⟩
      refine J.p (PR.assign rfl) rfl ?_
      refine J.nil ?_
      refine EJ.thenN (hK11 ?_)
      refine CJ.seq fun _ hK12 _ => ?_
      refine CJ.seq fun _ hK13 _ => ?_
      refine CJ.region ?_
      refine J.p (PR.move rfl) rfl ?_
      refine J.p (PR.lss rfl rfl) rfl ?_
      refine J.nil ?_
      refine EJ.thenN (hK13 ?_)
      refine CJ.condD rfl (fun h31 => ?_) (fun h31 => ?_)
      ·
        refine CJ.seq fun _ hK14 _ => ?_
        refine CJ.region ?_
        refine J.p (PR.assign rfl) rfl ?_
        refine J.nil ?_
        refine EJ.thenN (hK14 ?_)
        refine CJ.ret ?_
        refine EJ.thenR ?_
        refine EJ.ret1 rfl (Res.tmp rfl) fun w hH => ?_
        replace hH := hH.tail
        replace hH := hH.tail
        first | exact ⟨rfl, hH.below⟩ | exact absurd rfl h31p | exact absurd rfl h31 | (exfalso; omega) | (simp at h31; done)
      ·
        have hszm : ms.length + tot ms ≤ 1048576 := by unfold szv at h31; split at h31 <;> (try split at h31) <;> (try split at h31) <;> omega
        have ml6 : ∀ i, i < ms.length → (fm ms i).length ≤ 1048576 := fun i hi => by have := tot_fm hi; omega
        refine CJ.skip ?_
        refine EJ.thenN (hK12 ?_)
        refine CJ.seq fun _ hK15 _ => ?_
        refine CJ.openR (Rs := [_, _]) 12 [[], [0], [], [0, 1, 2], [], [0, 1, 2, 3, 4], [0, 1, 2, 3, 4, 5], [0, 1, 2, 3, 4, 5, 6], [0, 1, 2, 3, 4, 5, 6, 7], [0, 1, 2, 3, 4, 5, 6, 7], [0, 1, 2, 3, 4, 5, 6, 7, 8], [0, 1, 2, 3, 4, 5, 6, 7, 8, 9, 10]] [[13], [], [12], [], [], [], [1, 3, 5], [], [], [], [], []] [[], [], [], [], [], [], [], [], [], [], [], []] rfl rfl (by kernel_rfl) ?_
        apply GJ.st0 1 rfl
        iterate 3 focus (intros; (conv => lhs; simp only [slotsZ, zlAt, vs0, resL, at2, eq_self, Nat.reduceEqDiff, reduceIte, Nat.reduceSub, Nat.reduceAdd, List.cons_append, List.nil_append]); all_goals rfl)
        ·
          intro gh X K zq zc zq2 zc2 zb zv hK
          refine J.p (PR.loadAll rfl At.z (by simpa [*] using ag49)) rfl ?_
          refine J.nilK ?_
          exact hK zq zc zq2 zc2 zb zv
        ·
          intro gh gh' h
          rfl
        apply GJ.st2 2 rfl
        iterate 3 focus (intros; (conv => lhs; simp only [slotsZ, zlAt, vs0, resL, at2, eq_self, Nat.reduceEqDiff, reduceIte, Nat.reduceSub, Nat.reduceAdd, List.cons_append, List.nil_append]); all_goals rfl)
        ·
          intro gh X K zq zc zq2 zc2 zb zv hK
          refine J.call fn35 rfl rfl fun w hH => (toAlgebra_c had haf (by omega) hl6 hH).mono ?_
          rintro _ w ⟨qdo37, cdo37, qfo37, cfo37, vso37, rfl, hH⟩
          refine ⟨_, rfl, fun a hF => J.of hF hH ?_⟩
          refine J.nilK ?_
          exact hK qdo37 cdo37 qfo37 cfo37 zb vso37
        ·
          intro gh gh' h
          refine ⟨?_, ?_, ?_⟩ <;> rfl
        apply GJ.st0 3 rfl
        iterate 3 focus (intros; (conv => lhs; simp only [slotsZ, zlAt, vs0, resL, at2, eq_self, Nat.reduceEqDiff, reduceIte, Nat.reduceSub, Nat.reduceAdd, List.cons_append, List.nil_append]); all_goals rfl)
        ·
          intro gh X K zq zc zq2 zc2 zb zv hK
          refine J.p (PR.loadAll rfl At.z (by simpa [*] using ag49)) rfl ?_
          refine J.nilK ?_
          exact hK zq zc zq2 zc2 zb zv
        ·
          intro gh gh' h
          rfl
        apply GJ.st2 4 rfl
        iterate 3 focus (intros; (conv => lhs; simp only [slotsZ, zlAt, vs0, resL, at2, eq_self, Nat.reduceEqDiff, reduceIte, Nat.reduceSub, Nat.reduceAdd, List.cons_append, List.nil_append]); all_goals rfl)
        ·
          intro gh X K zq zc zq2 zc2 zb zv hK
          refine J.call fn35 rfl rfl fun w hH => (toAlgebra_c hbd hbf (by omega) bl6 hH).mono ?_
          rintro _ w ⟨qdo39, cdo39, qfo39, cfo39, vso39, rfl, hH⟩
          refine ⟨_, rfl, fun a hF => J.of hF hH ?_⟩
          refine J.nilK ?_
          exact hK qdo39 cdo39 qfo39 cfo39 zb vso39
        ·
          intro gh gh' h
          refine ⟨?_, ?_, ?_⟩ <;> (first | simp only [h 1 rfl] | rfl)
        apply GJ.st0 5 rfl
        iterate 3 focus (intros; (conv => lhs; simp only [slotsZ, zlAt, vs0, resL, at2, eq_self, Nat.reduceEqDiff, reduceIte, Nat.reduceSub, Nat.reduceAdd, List.cons_append, List.nil_append]); all_goals rfl)
        ·
          intro gh X K zq zc zq2 zc2 zb zv hK
          refine J.p (PR.move rfl) rfl ?_
          refine J.nilK ?_
          exact hK zq zc zq2 zc2 zb zv
        ·
          intro gh gh' h
          rfl
        apply GJ.st1 6 rfl
        iterate 3 focus (intros; (conv => lhs; simp only [slotsZ, zlAt, vs0, resL, at2, eq_self, Nat.reduceEqDiff, reduceIte, Nat.reduceSub, Nat.reduceAdd, List.cons_append, List.nil_append]); all_goals rfl)
        ·
          intro gh X K zq zc zq2 zc2 zb zv hK
          refine J.call fn66 rfl rfl fun w hH => (toFormS_c hms (by omega) ml6 hH).mono ?_
          rintro _ w ⟨qo41, co41, vso41, rfl, hH⟩
          refine ⟨_, rfl, fun a hF => J.of hF hH ?_⟩
          refine J.nilK ?_
          exact hK qo41 co41 zq2 zc2 zb vso41
        ·
          intro gh gh' h
          refine ⟨?_, ?_⟩ <;> (first | simp only [h 1 rfl, h 3 rfl] | rfl)
        apply GJ.st1 7 rfl
        iterate 3 focus (intros; (conv => lhs; simp only [slotsZ, zlAt, vs0, resL, at2, eq_self, Nat.reduceEqDiff, reduceIte, Nat.reduceSub, Nat.reduceAdd, List.cons_append, List.nil_append]); all_goals rfl)
        ·
          intro gh X K zq zc zq2 zc2 zb zv hK
          refine J.call fn68 rfl rfl fun w hH => hH.lend .z fun Hl1 hle1 hA1 hB1 hH => hH.lend .z fun Hl2 hle2 hA2 hB2 hH => hH.lend .z fun Hl3 hle3 hA3 hB3 hH => hH.lend .z fun Hl4 hle4 hA4 hB4 hH => hH.lend .z fun Hl5 hle5 hA5 hB5 hH => (sLinearTableOfMap_c (((((own_ints hA1).le hle2).le hle3).le hle4).le hle5) ((((own_forms haf.wfss hA2).le hle3).le hle4).le hle5) (((own_ints hA3).le hle4).le hle5) ((own_forms hbf.wfss hA4).le hle5) (own_forms hms.wfss hA5) (by omega) (by omega) hl6 (by omega) (by omega) bl6 (by omega) ml6 hH).mono ?_
          rintro _ w ⟨qo42, co42, vso42, rfl, hH⟩
          replace hH := hB5 _ _ hH
          replace hH := hB4 _ _ hH
          replace hH := hB3 _ _ hH
          replace hH := hB2 _ _ hH
          replace hH := hB1 _ _ hH
          refine ⟨_, rfl, fun a hF => J.of hF hH ?_⟩
          refine EJ.front (.s (.s (.s (.s .z)))) ?_
          refine EJ.front (.s (.s (.s (.s .z)))) ?_
          refine EJ.front (.s (.s (.s (.s .z)))) ?_
          refine EJ.front (.s (.s (.s (.s .z)))) ?_
          refine EJ.front (.s (.s (.s (.s .z)))) ?_
          refine EJ.front (.s (.s (.s (.s (.s .z))))) ?_
          refine J.nilK ?_
          exact hK qo42 co42 zq2 zc2 zb vso42
        ·
          intro gh gh' h
          refine ⟨?_, ?_⟩ <;> (first | simp only [h 1 rfl, h 3 rfl, h 5 rfl] | rfl)
        apply GJ.st0 8 rfl
        iterate 3 focus (intros; (conv => lhs; simp only [slotsZ, zlAt, vs0, resL, at2, eq_self, Nat.reduceEqDiff, reduceIte, Nat.reduceSub, Nat.reduceAdd, List.cons_append, List.nil_append]); all_goals rfl)
        ·
          intro gh X K zq zc zq2 zc2 zb zv hK
          refine J.p (PR.move rfl) rfl ?_
          refine J.nilK ?_
          exact hK zq zc zq2 zc2 zb zv
        ·
          intro gh gh' h
          first | simp only [h 1 rfl, h 3 rfl, h 5 rfl, h 6 rfl] | rfl
        apply GJ.st0 9 rfl
        iterate 3 focus (intros; (conv => lhs; simp only [slotsZ, zlAt, vs0, resL, at2, eq_self, Nat.reduceEqDiff, reduceIte, Nat.reduceSub, Nat.reduceAdd, List.cons_append, List.nil_append]); all_goals rfl)
        ·
          intro gh X K zq zc zq2 zc2 zb zv hK
          refine J.p (PR.extract rfl rfl) rfl ?_
          refine J.nilK ?_
          exact hK zq zc zq2 zc2 zb zv
        ·
          intro gh gh' h
          first | simp only [h 1 rfl, h 3 rfl, h 5 rfl, h 6 rfl] | rfl
        apply GJ.st0 10 rfl
        iterate 3 focus (intros; (conv => lhs; simp only [slotsZ, zlAt, vs0, resL, at2, eq_self, Nat.reduceEqDiff, reduceIte, Nat.reduceSub, Nat.reduceAdd, List.cons_append, List.nil_append]); all_goals rfl)
        ·
          intro gh X K zq zc zq2 zc2 zb zv hK
          refine J.p (PR.extract rfl rfl) rfl ?_
          refine J.nilK ?_
          exact hK zq zc zq2 zc2 zb zv
        ·
          intro gh gh' h
          first | simp only [h 1 rfl, h 3 rfl, h 5 rfl, h 6 rfl] | rfl
        apply GJ.st0 11 rfl
        iterate 3 focus (intros; (conv => lhs; simp only [slotsZ, zlAt, vs0, resL, at2, eq_self, Nat.reduceEqDiff, reduceIte, Nat.reduceSub, Nat.reduceAdd, List.cons_append, List.nil_append]); all_goals rfl)
        ·
          intro gh X K zq zc zq2 zc2 zb zv hK
          refine J.p (PR.assign rfl) rfl ?_
          refine J.nilK ?_
          exact hK zq zc zq2 zc2 zb zv
        ·
          intro gh gh' h
          first | simp only [h 1 rfl, h 3 rfl, h 5 rfl, h 6 rfl] | rfl
        apply GJ.st0 12 rfl
        iterate 3 focus (intros; (conv => lhs; simp only [slotsZ, zlAt, vs0, resL, at2, eq_self, Nat.reduceEqDiff, reduceIte, Nat.reduceSub, Nat.reduceAdd, List.cons_append, List.nil_append]); all_goals rfl)
        ·
          intro gh X K zq zc zq2 zc2 zb zv hK
          refine J.p (PR.assign rfl) rfl ?_
          refine J.nilK ?_
          exact hK zq zc zq2 zc2 zb zv
        ·
          intro gh gh' h
          first | simp only [h 1 rfl, h 3 rfl, h 5 rfl, h 6 rfl] | rfl
        apply GJ.close [0, 1, 2, 3, 4, 5, 6, 7, 8, 9, 10, 11] [0, 1, 2, 3, 4, 5, 6, 7, 8, 9, 10, 11, 12, 13] foll0 rfl rfl rfl (by rfl)
        iterate 2 focus (intros; (conv => lhs; simp only [slotsZ, zlAt, vs0, resL, at2, eq_self, Nat.reduceEqDiff, reduceIte, Nat.reduceSub, Nat.reduceAdd, List.cons_append, List.nil_append]); all_goals rfl)
        intro gh
        generalize (gh 1).c = cdo37
        generalize (gh 1).c2 = cfo37
        generalize (gh 1).q = qdo37
        generalize (gh 1).q2 = qfo37
        generalize (gh 1).vs = vso37
        generalize (gh 3).c = cdo39
        generalize (gh 3).c2 = cfo39
        generalize (gh 3).q = qdo39
        generalize (gh 3).q2 = qfo39
        generalize (gh 3).vs = vso39
        generalize (gh 5).c = co41
        generalize (gh 5).q = qo41
        generalize (gh 5).vs = vso41
        generalize (gh 6).c = co42
        generalize (gh 6).q = qo42
        generalize (gh 6).vs = vso42
        clear gh
        refine EJ.thenN (hK15 ?_)
        refine CJ.seq fun _ hK16 _ => ?_
        refine CJ.region ?_
        refine J.p (PR.loadAll rfl (.s (.s (.s (.s (.s (.s (.s .z))))))) (by simpa [*] using ag49)) rfl ?_
        refine J.call fn35 rfl rfl fun w hH => (toAlgebra_c had haf (by omega) hl6 hH).mono ?_
        rintro _ w ⟨qdo46, cdo46, qfo46, cfo46, vso46, rfl, hH⟩
        refine ⟨_, rfl, fun a hF => J.of hF hH ?_⟩
        refine J.alloc ze41 rfl fun g10 => ?_
        refine J.storeAll rfl rfl (by first | exact bytesC_one _ | exact intsC_one _ | exact Term.c_one _ | simp [Value.oneCell']) (by simpa [*] using sz41) (by simp [*]) At.z ?_
        refine J.nil ?_
        refine EJ.thenN (hK16 ?_)
        refine CJ.seq fun _ hK17 _ => ?_
        refine CJ.region ?_
        refine J.p (PR.loadAll rfl (.s (.s (.s (.s (.s (.s (.s (.s (.s .z))))))))) (by simpa [*] using ag49)) rfl ?_
        refine J.call fn35 rfl rfl fun w hH => (toAlgebra_c hbd hbf (by omega) bl6 hH).mono ?_
        rintro _ w ⟨qdo48, cdo48, qfo48, cfo48, vso48, rfl, hH⟩
        refine ⟨_, rfl, fun a hF => J.of hF hH ?_⟩
        refine J.alloc ze41 rfl fun g11 => ?_
        refine J.storeAll rfl rfl (by first | exact bytesC_one _ | exact intsC_one _ | exact Term.c_one _ | simp [Value.oneCell']) (by simpa [*] using sz41) (by simp [*]) At.z ?_
        refine J.nil ?_
        refine EJ.thenN (hK17 ?_)
        refine CJ.seq fun _ hK18 _ => ?_
        refine CJ.region ?_
        refine J.p (PR.move rfl) rfl ?_
        refine J.call fn66 rfl rfl fun w hH => (toFormS_c hms (by omega) ml6 hH).mono ?_
        rintro _ w ⟨qo50, co50, vso50, rfl, hH⟩
        refine ⟨_, rfl, fun a hF => J.of hF hH ?_⟩
        refine J.p (PR.assign rfl) rfl ?_
        refine J.nil ?_
        refine EJ.thenN (hK18 ?_)
        refine CJ.seq fun _ hK19 _ => ?_
        refine CJ.region ?_
        refine J.p (PR.loadAll rfl (.s (.s (.s (.s .z)))) (by simpa [*] using ag41)) rfl ?_
        refine J.p (PR.loadAll rfl (.s .z) (by simpa [*] using ag41)) rfl ?_
        refine J.p (PR.move rfl) rfl ?_
        refine J.call fn69 rfl rfl fun w hH => hH.lend (.s (.s (.s (.s (.s .z))))) fun Hl1 hle1 hA1 hB1 hH => hH.lend (.s (.s (.s (.s (.s .z))))) fun Hl2 hle2 hA2 hB2 hH => hH.lend (.s (.s .z)) fun Hl3 hle3 hA3 hB3 hH => hH.lend (.s (.s .z)) fun Hl4 hle4 hA4 hB4 hH => hH.lend .z fun Hl5 hle5 hA5 hB5 hH => (LinearTableOfMap_c (((((own_ints hA1).le hle2).le hle3).le hle4).le hle5) ((((own_forms haf.wfss hA2).le hle3).le hle4).le hle5) (((own_ints hA3).le hle4).le hle5) ((own_forms hbf.wfss hA4).le hle5) (own_forms hms.wfss hA5) (by omega) (by omega) hl6 (by omega) (by omega) bl6 (by omega) ml6 hH).mono ?_
        rintro _ w ⟨qo55, co55, vso55, rfl, hH⟩
        replace hH := hB5 _ _ hH
        replace hH := hB4 _ _ hH
        replace hH := hB3 _ _ hH
        replace hH := hB2 _ _ hH
        replace hH := hB1 _ _ hH
        refine ⟨_, rfl, fun a hF => J.of hF hH ?_⟩
        refine J.p (PR.move rfl) rfl ?_
        refine J.p (PR.extract rfl rfl) rfl ?_
        refine J.p (PR.extract rfl rfl) rfl ?_
        refine J.p (PR.assign rfl) rfl ?_
        refine J.p (PR.assign rfl) rfl ?_
        refine J.nil ?_
        refine EJ.thenN (hK19 ?_)
        refine CJ.seq fun _ hK20 _ => ?_
        refine CJ.seq fun _ hK21 _ => ?_
        refine CJ.region ?_
        refine J.p (PR.move rfl) rfl ?_
        refine J.p (PR.move rfl) rfl ?_
        refine J.call fn48 rfl rfl fun w hH => hH.lend (.s (.s (.s (.s (.s .z))))) fun Hl1 hle1 hA1 hB1 hH => hH.lend (.s (.s (.s (.s (.s (.s (.s (.s (.s (.s (.s (.s .z)))))))))))) fun Hl2 hle2 hA2 hB2 hH => (eqInt64SS_c ((own_rows hA1).le hle2) (own_rows hA2) (by omega) f3 hH).mono ?_
        rintro _ w ⟨rfl, hH⟩
        replace hH := hB2 _ _ hH
        replace hH := hB1 _ _ hH
        refine ⟨_, rfl, fun a hF => J.of hF hH ?_⟩
        refine J.p (PR.not rfl) rfl ?_
        refine J.p (PR.move rfl) rfl ?_
        refine J.splitB (jd := 62) rfl (fun hg62 => ?_) (fun hg62 => ?_)
        ·
          try have hg62p := of_decide_eq_true hg62
          refine J.gn rfl rfl rfl hg62 ?_
          refine J.gn rfl rfl rfl hg62 ?_
          refine J.gn rfl rfl rfl hg62 ?_
          refine J.p (PR.pickT rfl hg62 rfl) rfl ?_
          refine J.nil ?_
          refine EJ.thenN (hK21 ?_)
          refine CJ.condT rfl ?_
          refine CJ.seq fun _ hK22 _ => ?_
          refine CJ.region ?_
          refine J.p (PR.assign rfl) rfl ?_
          refine J.nil ?_
          refine EJ.thenN (hK22 ?_)
          refine CJ.ret ?_
          refine EJ.thenR ?_
          refine EJ.ret1 rfl (Res.tmp rfl) fun w hH => ?_
          replace hH := hH.tail
          replace hH := hH.tail
          replace hH := hH.tail
          replace hH := hH.tail
          replace hH := hH.tail
          replace hH := hH.tail
          replace hH := hH.tail
          replace hH := hH.tail
          replace hH := hH.tail
          replace hH := hH.tail
          replace hH := hH.tail
          replace hH := hH.tail
          replace hH := hH.tail
          replace hH := hH.tail
          replace hH := hH.tail
          replace hH := hH.tail
          first | exact ⟨rfl, hH.below⟩ | exact absurd rfl hg62p | exact absurd rfl hg62 | (exfalso; omega) | (simp at hg62; done)
        ·
          try have hg62p := of_decide_eq_false hg62
          refine J.gy (PR.move rfl) rfl rfl rfl hg62 ?_
          refine J.gy (PR.move rfl) rfl rfl rfl hg62 ?_
          refine J.gy (PR.neq rfl rfl) rfl rfl rfl hg62 ?_
          refine J.p (PR.pickF rfl hg62 rfl) rfl ?_
          refine J.nil ?_
          refine EJ.thenN (hK21 ?_)
          refine CJ.condD rfl (fun hc66 => ?_) (fun hc66 => ?_)
          ·
            refine CJ.seq fun _ hK23 _ => ?_
            refine CJ.region ?_
            refine J.p (PR.assign rfl) rfl ?_
            refine J.nil ?_
            refine EJ.thenN (hK23 ?_)
            refine CJ.ret ?_
            refine EJ.thenR ?_
            refine EJ.ret1 rfl (Res.tmp rfl) fun w hH => ?_
            replace hH := hH.tail
            replace hH := hH.tail
            replace hH := hH.tail
            replace hH := hH.tail
            replace hH := hH.tail
            replace hH := hH.tail
            replace hH := hH.tail
            replace hH := hH.tail
            replace hH := hH.tail
            replace hH := hH.tail
            replace hH := hH.tail
            replace hH := hH.tail
            replace hH := hH.tail
            replace hH := hH.tail
            replace hH := hH.tail
            replace hH := hH.tail
            first | exact ⟨rfl, hH.below⟩ | exact absurd rfl hc66p | exact absurd rfl hc66 | (exfalso; omega) | (simp at hc66; done)
          ·
            refine CJ.skip ?_
            refine EJ.thenN (hK20 ?_)
            refine CJ.seq fun _ hK24 _ => ?_
            refine CJ.seq fun _ hK25 _ => ?_
            refine CJ.openR (Rs := [_, _, _, _, _, _, _, _, _, _, _, _, _, _, _, _]) 5 [[], [], [1], [0, 1, 2], [0, 1, 2, 3]] [[13], [20], [], [2, 7, 8], []] [[], [], [], [], []] rfl rfl (by kernel_rfl) ?_
            apply GJ.st0 1 rfl
            iterate 3 focus (intros; (conv => lhs; simp only [slotsZ, zlAt, vs0, resL, at2, eq_self, Nat.reduceEqDiff, reduceIte, Nat.reduceSub, Nat.reduceAdd, List.cons_append, List.nil_append]); all_goals rfl)
            ·
              intro gh X K zq zc zq2 zc2 zb zv hK
              refine J.p (PR.loadAll rfl At.z (by simpa [*] using ag41)) rfl ?_
              refine J.nilK ?_
              exact hK zq zc zq2 zc2 zb zv
            ·
              intro gh gh' h
              rfl
            apply GJ.st0 2 rfl
            iterate 3 focus (intros; (conv => lhs; simp only [slotsZ, zlAt, vs0, resL, at2, eq_self, Nat.reduceEqDiff, reduceIte, Nat.reduceSub, Nat.reduceAdd, List.cons_append, List.nil_append]); all_goals rfl)
            ·
              intro gh X K zq zc zq2 zc2 zb zv hK
              refine J.p (PR.loadAll rfl At.z (by simpa [*] using ag49)) rfl ?_
              refine J.nilK ?_
              exact hK zq zc zq2 zc2 zb zv
            ·
              intro gh gh' h
              rfl
            apply GJ.st2 3 rfl
            iterate 3 focus (intros; (conv => lhs; simp only [slotsZ, zlAt, vs0, resL, at2, eq_self, Nat.reduceEqDiff, reduceIte, Nat.reduceSub, Nat.reduceAdd, List.cons_append, List.nil_append]); all_goals rfl)
            ·
              intro gh X K zq zc zq2 zc2 zb zv hK
              refine J.call fn35 rfl rfl fun w hH => (toAlgebra_c had haf (by omega) hl6 hH).mono ?_
              rintro _ w ⟨qdo69, cdo69, qfo69, cfo69, vso69, rfl, hH⟩
              refine ⟨_, rfl, fun a hF => J.of hF hH ?_⟩
              refine J.nilK ?_
              exact hK qdo69 cdo69 qfo69 cfo69 zb vso69
            ·
              intro gh gh' h
              refine ⟨?_, ?_, ?_⟩ <;> rfl
            apply GJ.st0 4 rfl
            iterate 3 focus (intros; (conv => lhs; simp only [slotsZ, zlAt, vs0, resL, at2, eq_self, Nat.reduceEqDiff, reduceIte, Nat.reduceSub, Nat.reduceAdd, List.cons_append, List.nil_append]); all_goals rfl)
            ·
              intro gh X K zq zc zq2 zc2 zb zv hK
              refine J.call fn30 rfl rfl fun w hH => hH.lend (.s (.s .z)) fun Hl1 hle1 hA1 hB1 hH => hH.lend (.s (.s .z)) fun Hl2 hle2 hA2 hB2 hH => hH.lend .z fun Hl3 hle3 hA3 hB3 hH => hH.lend .z fun Hl4 hle4 hA4 hB4 hH => (eqAlgebra_c ((((own_ints hA1).le hle2).le hle3).le hle4) (((own_forms haf.wfss hA2).le hle3).le hle4) ((own_ints hA3).le hle4) (own_forms haf.wfss hA4) (by omega) (by omega) hl hH).mono ?_
              rintro _ w ⟨rfl, hH⟩
              replace hH := hB4 _ _ hH
              replace hH := hB3 _ _ hH
              replace hH := hB2 _ _ hH
              replace hH := hB1 _ _ hH
              refine ⟨_, rfl, fun a hF => J.of hF hH ?_⟩
              refine EJ.front (.s .z) ?_
              refine EJ.front (.s .z) ?_
              refine EJ.front (.s (.s (.s .z))) ?_
              refine EJ.front (.s (.s (.s .z))) ?_
              refine J.nilK ?_
              exact hK zq zc zq2 zc2 zb zv
            ·
              intro gh gh' h
              first | simp only [h 2 rfl] | rfl
            apply GJ.st0 5 rfl
            iterate 3 focus (intros; (conv => lhs; simp only [slotsZ, zlAt, vs0, resL, at2, eq_self, Nat.reduceEqDiff, reduceIte, Nat.reduceSub, Nat.reduceAdd, List.cons_append, List.nil_append]); all_goals rfl)
            ·
              intro gh X K zq zc zq2 zc2 zb zv hK
              refine J.p (PR.not rfl) rfl ?_
              refine J.nilK ?_
              exact hK zq zc zq2 zc2 zb zv
            ·
              intro gh gh' h
              first | simp only [h 2 rfl] | rfl
            apply GJ.close [0, 1, 2, 3, 4] [0, 1, 2, 3, 4, 5, 6, 7, 8, 9, 10, 11, 12, 13, 14, 15, 16, 17, 18, 19, 20] foll0 rfl rfl rfl (by rfl)
            iterate 2 focus (intros; (conv => lhs; simp only [slotsZ, zlAt, vs0, resL, at2, eq_self, Nat.reduceEqDiff, reduceIte, Nat.reduceSub, Nat.reduceAdd, List.cons_append, List.nil_append]); all_goals rfl)
            intro gh
            generalize (gh 2).c = cdo69
            generalize (gh 2).c2 = cfo69
            generalize (gh 2).q = qdo69
            generalize (gh 2).q2 = qfo69
            generalize (gh 2).vs = vso69
            clear gh
            refine EJ.thenN (hK25 ?_)
            refine CJ.cond rfl (fun hc71 => ?_) (fun hc71 => ?_)
            ·
              refine CJ.seq fun _ hK26 _ => ?_
              refine CJ.region ?_
              refine J.p (PR.assign rfl) rfl ?_
              refine J.nil ?_
              refine EJ.thenN (hK26 ?_)
              refine CJ.ret ?_
              refine EJ.thenR ?_
              refine EJ.ret1 rfl (Res.tmp rfl) fun w hH => ?_
              replace hH := hH.tail
              replace hH := hH.tail
              replace hH := hH.tail
              replace hH := hH.tail
              replace hH := hH.tail
              replace hH := hH.tail
              replace hH := hH.tail
              replace hH := hH.tail
              replace hH := hH.tail
              replace hH := hH.tail
              replace hH := hH.tail
              replace hH := hH.tail
              replace hH := hH.tail
              replace hH := hH.tail
              replace hH := hH.tail
              replace hH := hH.tail
              replace hH := hH.tail
              replace hH := hH.tail
              first | exact ⟨rfl, hH.below⟩ | exact absurd rfl hc71p | exact absurd rfl hc71 | (exfalso; omega) | (simp at hc71; done)
            ·
              refine CJ.skip ?_
              refine EJ.thenN (hK24 ?_)
              refine CJ.seq fun _ hK27 _ => ?_
              refine CJ.seq fun _ hK28 _ => ?_
              refine CJ.openR (Rs := [_, _, _, _, _, _, _, _, _, _, _, _, _, _, _, _, _, _]) 5 [[], [], [1], [0, 1, 2], [0, 1, 2, 3]] [[14], [21], [], [2, 11, 12], []] [[], [], [], [], []] rfl rfl (by kernel_rfl) ?_
              apply GJ.st0 1 rfl
              iterate 3 focus (intros; (conv => lhs; simp only [slotsZ, zlAt, vs0, resL, at2, eq_self, Nat.reduceEqDiff, reduceIte, Nat.reduceSub, Nat.reduceAdd, List.cons_append, List.nil_append]); all_goals rfl)
              ·
                intro gh X K zq zc zq2 zc2 zb zv hK
                refine J.p (PR.loadAll rfl At.z (by simpa [*] using ag41)) rfl ?_
                refine J.nilK ?_
                exact hK zq zc zq2 zc2 zb zv
              ·
                intro gh gh' h
                rfl
              apply GJ.st0 2 rfl
              iterate 3 focus (intros; (conv => lhs; simp only [slotsZ, zlAt, vs0, resL, at2, eq_self, Nat.reduceEqDiff, reduceIte, Nat.reduceSub, Nat.reduceAdd, List.cons_append, List.nil_append]); all_goals rfl)
              ·
                intro gh X K zq zc zq2 zc2 zb zv hK
                refine J.p (PR.loadAll rfl At.z (by simpa [*] using ag49)) rfl ?_
                refine J.nilK ?_
                exact hK zq zc zq2 zc2 zb zv
              ·
                intro gh gh' h
                rfl
              apply GJ.st2 3 rfl
              iterate 3 focus (intros; (conv => lhs; simp only [slotsZ, zlAt, vs0, resL, at2, eq_self, Nat.reduceEqDiff, reduceIte, Nat.reduceSub, Nat.reduceAdd, List.cons_append, List.nil_append]); all_goals rfl)
              ·
                intro gh X K zq zc zq2 zc2 zb zv hK
                refine J.call fn35 rfl rfl fun w hH => (toAlgebra_c hbd hbf (by omega) bl6 hH).mono ?_
                rintro _ w ⟨qdo74, cdo74, qfo74, cfo74, vso74, rfl, hH⟩
                refine ⟨_, rfl, fun a hF => J.of hF hH ?_⟩
                refine J.nilK ?_
                exact hK qdo74 cdo74 qfo74 cfo74 zb vso74
              ·
                intro gh gh' h
                refine ⟨?_, ?_, ?_⟩ <;> rfl
              apply GJ.st0 4 rfl
              iterate 3 focus (intros; (conv => lhs; simp only [slotsZ, zlAt, vs0, resL, at2, eq_self, Nat.reduceEqDiff, reduceIte, Nat.reduceSub, Nat.reduceAdd, List.cons_append, List.nil_append]); all_goals rfl)
              ·
                intro gh X K zq zc zq2 zc2 zb zv hK
                refine J.call fn30 rfl rfl fun w hH => hH.lend (.s (.s .z)) fun Hl1 hle1 hA1 hB1 hH => hH.lend (.s (.s .z)) fun Hl2 hle2 hA2 hB2 hH => hH.lend .z fun Hl3 hle3 hA3 hB3 hH => hH.lend .z fun Hl4 hle4 hA4 hB4 hH => (eqAlgebra_c ((((own_ints hA1).le hle2).le hle3).le hle4) (((own_forms hbf.wfss hA2).le hle3).le hle4) ((own_ints hA3).le hle4) (own_forms hbf.wfss hA4) (by omega) (by omega) bl hH).mono ?_
                rintro _ w ⟨rfl, hH⟩
                replace hH := hB4 _ _ hH
                replace hH := hB3 _ _ hH
                replace hH := hB2 _ _ hH
                replace hH := hB1 _ _ hH
                refine ⟨_, rfl, fun a hF => J.of hF hH ?_⟩
                refine EJ.front (.s .z) ?_
                refine EJ.front (.s .z) ?_
                refine EJ.front (.s (.s (.s .z))) ?_
                refine EJ.front (.s (.s (.s .z))) ?_
                refine J.nilK ?_
                exact hK zq zc zq2 zc2 zb zv
              ·
                intro gh gh' h
                first | simp only [h 2 rfl] | rfl
              apply GJ.st0 5 rfl
              iterate 3 focus (intros; (conv => lhs; simp only [slotsZ, zlAt, vs0, resL, at2, eq_self, Nat.reduceEqDiff, reduceIte, Nat.reduceSub, Nat.reduceAdd, List.cons_append, List.nil_append]); all_goals rfl)
              ·
                intro gh X K zq zc zq2 zc2 zb zv hK
                refine J.p (PR.not rfl) rfl ?_
                refine J.nilK ?_
                exact hK zq zc zq2 zc2 zb zv
              ·
                intro gh gh' h
                first | simp only [h 2 rfl] | rfl
              apply GJ.close [0, 1, 2, 3, 4] [0, 1, 2, 3, 4, 5, 6, 7, 8, 9, 10, 11, 12, 13, 14, 15, 16, 17, 18, 19, 20, 21, 22] foll0 rfl rfl rfl (by rfl)
              iterate 2 focus (intros; (conv => lhs; simp only [slotsZ, zlAt, vs0, resL, at2, eq_self, Nat.reduceEqDiff, reduceIte, Nat.reduceSub, Nat.reduceAdd, List.cons_append, List.nil_append]); all_goals rfl)
              intro gh
              generalize (gh 2).c = cdo74
              generalize (gh 2).c2 = cfo74
              generalize (gh 2).q = qdo74
              generalize (gh 2).q2 = qfo74
              generalize (gh 2).vs = vso74
              clear gh
              refine EJ.thenN (hK28 ?_)
              refine CJ.cond rfl (fun hc76 => ?_) (fun hc76 => ?_)
              ·
                refine CJ.seq fun _ hK29 _ => ?_
                refine CJ.region ?_
                refine J.p (PR.assign rfl) rfl ?_
                refine J.nil ?_
                refine EJ.thenN (hK29 ?_)
                refine CJ.ret ?_
                refine EJ.thenR ?_
                refine EJ.ret1 rfl (Res.tmp rfl) fun w hH => ?_
                replace hH := hH.tail
                replace hH := hH.tail
                replace hH := hH.tail
                replace hH := hH.tail
                replace hH := hH.tail
                replace hH := hH.tail
                replace hH := hH.tail
                replace hH := hH.tail
                replace hH := hH.tail
                replace hH := hH.tail
                replace hH := hH.tail
                replace hH := hH.tail
                replace hH := hH.tail
                replace hH := hH.tail
                replace hH := hH.tail
                replace hH := hH.tail
                replace hH := hH.tail
                replace hH := hH.tail
                replace hH := hH.tail
                replace hH := hH.tail
                first | exact ⟨rfl, hH.below⟩ | exact absurd rfl hc76p | exact absurd rfl hc76 | (exfalso; omega) | (simp at hc76; done)
              ·
                refine CJ.skip ?_
                refine EJ.thenN (hK27 ?_)
                refine CJ.seq fun _ hK30 _ => ?_
                refine CJ.seq fun _ hK31 _ => ?_
                refine CJ.region ?_
                refine J.p (PR.move rfl) rfl ?_
                refine J.p (PR.move rfl) rfl ?_
                refine J.call fn66 rfl rfl fun w hH => (toFormS_c hms (by omega) ml6 hH).mono ?_
                rintro _ w ⟨qo79, co79, vso79, rfl, hH⟩
                refine ⟨_, rfl, fun a hF => J.of hF hH ?_⟩
                refine J.call fn55 rfl rfl fun w hH => hH.lend (.s (.s (.s (.s (.s (.s (.s (.s (.s (.s (.s .z))))))))))) fun Hl1 hle1 hA1 hB1 hH => hH.lend .z fun Hl2 hle2 hA2 hB2 hH => (eqFormS_c ((own_forms hms.wfss hA1).le hle2) (own_forms hms.wfss hA2) (by omega) ml hH).mono ?_
                rintro _ w ⟨rfl, hH⟩
                replace hH := hB2 _ _ hH
                replace hH := hB1 _ _ hH
                refine ⟨_, rfl, fun a hF => J.of hF hH ?_⟩
                refine J.p (PR.not rfl) rfl ?_
                refine J.nil ?_
                refine EJ.thenN (hK31 ?_)
                refine CJ.cond rfl (fun hc81 => ?_) (fun hc81 => ?_)
                ·
                  refine CJ.seq fun _ hK32 _ => ?_
                  refine CJ.region ?_
                  refine J.p (PR.assign rfl) rfl ?_
                  refine J.nil ?_
                  refine EJ.thenN (hK32 ?_)
                  refine CJ.ret ?_
                  refine EJ.thenR ?_
                  refine EJ.ret1 rfl (Res.tmp rfl) fun w hH => ?_
                  replace hH := hH.tail
                  replace hH := hH.tail
                  replace hH := hH.tail
                  replace hH := hH.tail
                  replace hH := hH.tail
                  replace hH := hH.tail
                  replace hH := hH.tail
                  replace hH := hH.tail
                  replace hH := hH.tail
                  replace hH := hH.tail
                  replace hH := hH.tail
                  replace hH := hH.tail
                  replace hH := hH.tail
                  replace hH := hH.tail
                  replace hH := hH.tail
                  replace hH := hH.tail
                  replace hH := hH.tail
                  replace hH := hH.tail
                  replace hH := hH.tail
                  replace hH := hH.tail
                  replace hH := hH.tail
                  first | exact ⟨rfl, hH.below⟩ | exact absurd rfl hc81p | exact absurd rfl hc81 | (exfalso; omega) | (simp at hc81; done)
                ·
                  refine CJ.skip ?_
                  refine EJ.thenN (hK30 ?_)
                  refine CJ.seq fun _ hK33 _ => ?_
                  refine CJ.region ?_
                  refine J.p (PR.assign rfl) rfl ?_
                  refine J.nil ?_
                  refine EJ.thenN (hK33 ?_)
                  refine CJ.seq fun _ hK34 _ => ?_
                  refine CJ.region ?_
                  refine J.p (PR.loadAll rfl (.s (.s (.s (.s (.s (.s (.s (.s (.s (.s (.s (.s (.s .z))))))))))))) (by simpa [*] using ag41)) rfl ?_
                  refine J.p (PR.move rfl) rfl ?_
                  refine J.call fn31 rfl rfl fun w hH => (markAlgebra_c (by omega) (by omega) ((hH.front (.s (.s (.s (.s (.s (.s (.s (.s (.s .z)))))))))).front (.s (.s (.s (.s (.s (.s (.s (.s (.s .z))))))))))).mono ?_
                  rintro _ w ⟨rfl, hH⟩
                  refine ⟨_, rfl, fun a hF => J.of hF hH ?_⟩
                  refine J.p (PR.assign rfl) rfl ?_
                  refine J.nil ?_
                  refine EJ.thenN (hK34 ?_)
                  refine CJ.seq fun _ hK35 _ => ?_
                  refine CJ.region ?_
                  refine J.p (PR.loadAll rfl (.s (.s (.s (.s (.s (.s (.s (.s (.s (.s (.s (.s .z)))))))))))) (by simpa [*] using ag41)) rfl ?_
                  refine J.p (PR.move rfl) rfl ?_
                  refine J.call fn31 rfl rfl fun w hH => (markAlgebra_c (by omega) (by omega) ((hH.front (.s (.s (.s (.s (.s (.s (.s (.s (.s (.s (.s .z)))))))))))).front (.s (.s (.s (.s (.s (.s (.s (.s (.s (.s (.s .z))))))))))))).mono ?_
                  rintro _ w ⟨rfl, hH⟩
                  refine ⟨_, rfl, fun a hF => J.of hF hH ?_⟩
                  refine J.p (PR.assign rfl) rfl ?_
                  refine J.nil ?_
                  refine EJ.thenN (hK35 ?_)
                  refine CJ.seq fun _ hK36 _ => ?_
                  refine CJ.region ?_
                  refine J.p (PR.move rfl) rfl ?_
                  refine J.p (PR.move rfl) rfl ?_
                  refine J.call fn56 rfl rfl fun w hH => (markFormS_c (by omega) (by omega) (hH.front (.s (.s (.s (.s .z)))))).mono ?_
                  rintro _ w ⟨rfl, hH⟩
                  refine ⟨_, rfl, fun a hF => J.of hF hH ?_⟩
                  refine J.p (PR.assign rfl) rfl ?_
                  refine J.nil ?_
                  refine EJ.thenN (hK36 ?_)
                  refine CJ.seq fun _ hK37 _ => ?_
                  refine CJ.seq fun _ hK38 _ => ?_
                  refine CJ.region ?_
                  refine J.p (PR.move rfl) rfl ?_
                  refine J.p (PR.lss rfl rfl) rfl ?_
                  refine J.p (PR.move rfl) rfl ?_
                  refine J.splitB (jd := 93) rfl (fun hg93 => ?_) (fun hg93 => ?_)
                  ·
                    try have hg93p := of_decide_eq_true hg93
                    refine J.gn rfl rfl rfl hg93 ?_
                    refine J.gn rfl rfl rfl hg93 ?_
                    refine J.gn rfl rfl rfl hg93 ?_
                    refine J.gn rfl rfl rfl hg93 ?_
                    refine J.p (PR.pickT rfl hg93 rfl) rfl ?_
                    refine J.p (PR.move rfl) rfl ?_
                    refine J.gn rfl rfl rfl rfl ?_
                    refine J.gn rfl rfl rfl rfl ?_
                    refine J.gn rfl rfl rfl rfl ?_
                    refine J.p (PR.pickT rfl rfl rfl) rfl ?_
                    refine J.nil ?_
                    refine EJ.thenN (hK38 ?_)
                    refine CJ.condT rfl ?_
                    refine CJ.seq fun _ hK39 _ => ?_
                    refine CJ.region ?_
                    refine J.p (PR.assign rfl) rfl ?_
                    refine J.nil ?_
                    refine EJ.thenN (hK39 ?_)
                    refine CJ.ret ?_
                    refine EJ.thenR ?_
                    refine EJ.ret1 rfl (Res.tmp rfl) fun w hH => ?_
                    replace hH := hH.tail
                    replace hH := hH.tail
                    replace hH := hH.tail
                    replace hH := hH.tail
                    replace hH := hH.tail
                    replace hH := hH.tail
                    replace hH := hH.tail
                    replace hH := hH.tail
                    replace hH := hH.tail
                    replace hH := hH.tail
                    replace hH := hH.tail
                    replace hH := hH.tail
                    replace hH := hH.tail
                    replace hH := hH.tail
                    replace hH := hH.tail
                    replace hH := hH.tail
                    replace hH := hH.tail
                    replace hH := hH.tail
                    replace hH := hH.tail
                    replace hH := hH.tail
                    replace hH := hH.tail
                    first | exact ⟨rfl, hH.below⟩ | exact absurd rfl hg93p | exact absurd rfl hg93 | (exfalso; omega) | (simp at hg93; done)
                  ·
                    try have hg93p := of_decide_eq_false hg93
                    refine J.gy (PR.move rfl) rfl rfl rfl hg93 ?_
                    refine J.gy (PR.move rfl) rfl rfl rfl hg93 ?_
                    refine J.gcall fn48 rfl rfl hg93 rfl rfl fun w hH => hH.lend (.s (.s (.s (.s (.s (.s (.s (.s (.s (.s .z)))))))))) fun Hl1 hle1 hA1 hB1 hH => hH.lend (.s (.s (.s (.s (.s (.s (.s (.s (.s (.s .z)))))))))) fun Hl2 hle2 hA2 hB2 hH => (eqInt64SS_c ((own_rows hA1).le hle2) (own_rows hA2) (by omega) f3 hH).mono ?_
                    rintro _ w ⟨rfl, hH⟩
                    replace hH := hB2 _ _ hH
                    replace hH := hB1 _ _ hH
                    refine ⟨_, rfl, fun a hF => J.of hF hH ?_⟩
                    refine J.gy (PR.not rfl) rfl rfl rfl hg93 ?_
                    refine J.p (PR.pickF rfl hg93 rfl) rfl ?_
                    refine J.p (PR.move rfl) rfl ?_
                    refine J.splitB (jd := 99) rfl (fun hg99 => ?_) (fun hg99 => ?_)
                    ·
                      try have hg99p := of_decide_eq_true hg99
                      refine J.gn rfl rfl rfl hg99 ?_
                      refine J.gn rfl rfl rfl hg99 ?_
                      refine J.gn rfl rfl rfl hg99 ?_
                      refine J.p (PR.pickT rfl hg99 rfl) rfl ?_
                      refine J.nil ?_
                      refine EJ.thenN (hK38 ?_)
                      refine CJ.condT rfl ?_
                      refine CJ.seq fun _ hK40 _ => ?_
                      refine CJ.region ?_
                      refine J.p (PR.assign rfl) rfl ?_
                      refine J.nil ?_
                      refine EJ.thenN (hK40 ?_)
                      refine CJ.ret ?_
                      refine EJ.thenR ?_
                      refine EJ.ret1 rfl (Res.tmp rfl) fun w hH => ?_
                      replace hH := hH.tail
                      replace hH := hH.tail
                      replace hH := hH.tail
                      replace hH := hH.tail
                      replace hH := hH.tail
                      replace hH := hH.tail
                      replace hH := hH.tail
                      replace hH := hH.tail
                      replace hH := hH.tail
                      replace hH := hH.tail
                      replace hH := hH.tail
                      replace hH := hH.tail
                      replace hH := hH.tail
                      replace hH := hH.tail
                      replace hH := hH.tail
                      replace hH := hH.tail
                      replace hH := hH.tail
                      replace hH := hH.tail
                      replace hH := hH.tail
                      replace hH := hH.tail
                      replace hH := hH.tail
                      first | exact ⟨rfl, hH.below⟩ | exact absurd rfl hg99p | exact absurd rfl hg99 | (exfalso; omega) | (simp at hg99; done)
                    ·
                      try have hg99p := of_decide_eq_false hg99
                      refine J.gy (PR.move rfl) rfl rfl rfl hg99 ?_
                      refine J.gy (PR.move rfl) rfl rfl rfl hg99 ?_
                      refine J.gy (PR.neq rfl rfl) rfl rfl rfl hg99 ?_
                      refine J.p (PR.pickF rfl hg99 rfl) rfl ?_
                      refine J.nil ?_
                      refine EJ.thenN (hK38 ?_)
                      refine CJ.condD rfl (fun hc103 => ?_) (fun hc103 => ?_)
                      ·
                        refine CJ.seq fun _ hK41 _ => ?_
                        refine CJ.region ?_
                        refine J.p (PR.assign rfl) rfl ?_
                        refine J.nil ?_
                        refine EJ.thenN (hK41 ?_)
                        refine CJ.ret ?_
                        refine EJ.thenR ?_
                        refine EJ.ret1 rfl (Res.tmp rfl) fun w hH => ?_
                        replace hH := hH.tail
                        replace hH := hH.tail
                        replace hH := hH.tail
                        replace hH := hH.tail
                        replace hH := hH.tail
                        replace hH := hH.tail
                        replace hH := hH.tail
                        replace hH := hH.tail
                        replace hH := hH.tail
                        replace hH := hH.tail
                        replace hH := hH.tail
                        replace hH := hH.tail
                        replace hH := hH.tail
                        replace hH := hH.tail
                        replace hH := hH.tail
                        replace hH := hH.tail
                        replace hH := hH.tail
                        replace hH := hH.tail
                        replace hH := hH.tail
                        replace hH := hH.tail
                        replace hH := hH.tail
                        first | exact ⟨rfl, hH.below⟩ | exact absurd rfl hc103p | exact absurd rfl hc103 | (exfalso; omega) | (simp at hc103; done)
                      ·
                        refine CJ.skip ?_
                        refine EJ.thenN (hK37 ?_)
                        refine CJ.seq fun _ hK42 _ => ?_
                        refine CJ.region ?_
                        refine J.p (PR.assign rfl) rfl ?_
                        refine J.nil ?_
                        refine EJ.thenN (hK42 ?_)
                        refine CJ.seq fun _ hK43 _ => ?_
                        refine CJ.region ?_
                        refine J.p (PR.move rfl) rfl ?_
                        refine J.p (PR.move rfl) rfl ?_
                        refine J.call fn49 rfl rfl fun w hH => (markInt64SS_c (by omega) (by omega) (hH.front .z)).mono ?_
                        rintro _ w ⟨rfl, hH⟩
                        refine ⟨_, rfl, fun a hF => J.of hF hH ?_⟩
                        refine J.p (PR.assign rfl) rfl ?_
                        refine J.nil ?_
                        refine EJ.thenN (hK43 ?_)
                        refine CJ.seq fun _ hK44 _ => ?_
                        refine CJ.region ?_
                        refine J.p (PR.assign rfl) rfl ?_
                        refine J.nil ?_
                        refine EJ.thenN (hK44 ?_)
                        refine CJ.seq fun _ hK45 _ => ?_
                        refine CJ.region ?_
                        refine J.p (PR.move rfl) rfl ?_
                        refine J.p (PR.move rfl) rfl ?_
                        refine J.call fn50 rfl rfl fun w hH => hH.lend .z fun Hl1 hle1 hA1 hB1 hH => (heldInt64SS_c (own_mrows (by omega) hA1) (by omega) (by omega) hH).mono ?_
                        rintro _ w ⟨rfl, hH⟩
                        replace hH := hB1 _ _ hH
                        refine ⟨_, rfl, fun a hF => J.of hF hH ?_⟩
                        refine J.p (PR.assign rfl) rfl ?_
                        refine J.nil ?_
                        refine EJ.thenN (hK45 ?_)
                        refine CJ.seq fun _ hK46 _ => ?_
                        refine CJ.seq fun _ hK47 _ => ?_
                        refine CJ.region ?_
                        refine J.p (PR.move rfl) rfl ?_
                        refine J.p (PR.lss rfl rfl) rfl ?_
                        refine J.nil ?_
                        refine EJ.thenN (hK47 ?_)
                        refine CJ.condD rfl (fun hc111 => ?_) (fun hc111 => ?_)
                        ·
                          refine CJ.seq fun _ hK48 _ => ?_
                          refine CJ.region ?_
                          refine J.p (PR.assign rfl) rfl ?_
                          refine J.nil ?_
                          refine EJ.thenN (hK48 ?_)
                          refine CJ.ret ?_
                          refine EJ.thenR ?_
                          refine EJ.ret1 rfl (Res.tmp rfl) fun w hH => ?_
                          replace hH := hH.tail
                          replace hH := hH.tail
                          replace hH := hH.tail
                          replace hH := hH.tail
                          replace hH := hH.tail
                          replace hH := hH.tail
                          replace hH := hH.tail
                          replace hH := hH.tail
                          replace hH := hH.tail
                          replace hH := hH.tail
                          replace hH := hH.tail
                          replace hH := hH.tail
                          replace hH := hH.tail
                          replace hH := hH.tail
                          replace hH := hH.tail
                          replace hH := hH.tail
                          replace hH := hH.tail
                          replace hH := hH.tail
                          replace hH := hH.tail
                          replace hH := hH.tail
                          replace hH := hH.tail
                          first | exact ⟨rfl, hH.below⟩ | exact absurd rfl hc111p | exact absurd rfl hc111 | (exfalso; omega) | (simp at hc111; done)
                        ·
                          refine CJ.skip ?_
                          refine EJ.thenN (hK46 ?_)
                          refine CJ.seq fun _ hK49 _ => ?_
                          refine CJ.seq fun _ hK50 _ => ?_
                          refine CJ.region ?_
                          refine J.p (PR.move rfl) rfl ?_
                          refine J.p (PR.move rfl) rfl ?_
                          refine J.p (PR.neq rfl rfl) rfl ?_
                          refine J.nil ?_
                          refine EJ.thenN (hK50 ?_)
                          refine CJ.condD rfl (fun hc114 => ?_) (fun hc114 => ?_)
                          ·
                            refine CJ.seq fun _ hK51 _ => ?_
                            refine CJ.region ?_
                            refine J.p (PR.assign rfl) rfl ?_
                            refine J.nil ?_
                            refine EJ.thenN (hK51 ?_)
                            refine CJ.ret ?_
                            refine EJ.thenR ?_
                            refine EJ.ret1 rfl (Res.tmp rfl) fun w hH => ?_
                            replace hH := hH.tail
                            replace hH := hH.tail
                            replace hH := hH.tail
                            replace hH := hH.tail
                            replace hH := hH.tail
                            replace hH := hH.tail
                            replace hH := hH.tail
                            replace hH := hH.tail
                            replace hH := hH.tail
                            replace hH := hH.tail
                            replace hH := hH.tail
                            replace hH := hH.tail
                            replace hH := hH.tail
                            replace hH := hH.tail
                            replace hH := hH.tail
                            replace hH := hH.tail
                            replace hH := hH.tail
                            replace hH := hH.tail
                            replace hH := hH.tail
                            replace hH := hH.tail
                            replace hH := hH.tail
                            first | exact ⟨rfl, hH.below⟩ | exact absurd rfl hc114p | exact absurd rfl hc114 | (exfalso; omega) | (simp at hc114; done)
                          ·
                            refine CJ.skip ?_
                            refine EJ.thenN (hK49 ?_)
                            refine CJ.seq fun _ hK52 _ => ?_
                            refine CJ.openR (Rs := [_, _, _, _, _, _, _, _, _, _, _, _, _, _, _, _, _, _, _, _, _]) 12 [[], [0], [], [0, 1, 2], [], [0, 1, 2, 3, 4], [0, 1, 2, 3, 4, 5], [0, 1, 2, 3, 4, 5, 6], [0, 1, 2, 3, 4, 5, 6, 7], [0, 1, 2, 3, 4, 5, 6, 7], [0, 1, 2, 3, 4, 5, 6, 7, 8], [0, 1, 2, 3, 4, 5, 6, 7, 8, 9, 10]] [[32], [], [31], [], [], [], [1, 3, 5], [], [], [], [], []] [[], [], [], [], [], [], [], [], [], [], [], []] rfl rfl (by kernel_rfl) ?_
                            apply GJ.st0 1 rfl
                            iterate 3 focus (intros; (conv => lhs; simp only [slotsZ, zlAt, vs0, resL, at2, eq_self, Nat.reduceEqDiff, reduceIte, Nat.reduceSub, Nat.reduceAdd, List.cons_append, List.nil_append]); all_goals rfl)
                            ·
                              intro gh X K zq zc zq2 zc2 zb zv hK
                              refine J.p (PR.loadAll rfl At.z (by simpa [*] using ag49)) rfl ?_
                              refine J.nilK ?_
                              exact hK zq zc zq2 zc2 zb zv
                            ·
                              intro gh gh' h
                              rfl
                            apply GJ.st2 2 rfl
                            iterate 3 focus (intros; (conv => lhs; simp only [slotsZ, zlAt, vs0, resL, at2, eq_self, Nat.reduceEqDiff, reduceIte, Nat.reduceSub, Nat.reduceAdd, List.cons_append, List.nil_append]); all_goals rfl)
                            ·
                              intro gh X K zq zc zq2 zc2 zb zv hK
                              refine J.call fn35 rfl rfl fun w hH => (toAlgebra_c had haf (by omega) hl6 hH).mono ?_
                              rintro _ w ⟨qdo117, cdo117, qfo117, cfo117, vso117, rfl, hH⟩
                              refine ⟨_, rfl, fun a hF => J.of hF hH ?_⟩
                              refine J.nilK ?_
                              exact hK qdo117 cdo117 qfo117 cfo117 zb vso117
                            ·
                              intro gh gh' h
                              refine ⟨?_, ?_, ?_⟩ <;> rfl
                            apply GJ.st0 3 rfl
                            iterate 3 focus (intros; (conv => lhs; simp only [slotsZ, zlAt, vs0, resL, at2, eq_self, Nat.reduceEqDiff, reduceIte, Nat.reduceSub, Nat.reduceAdd, List.cons_append, List.nil_append]); all_goals rfl)
                            ·
                              intro gh X K zq zc zq2 zc2 zb zv hK
                              refine J.p (PR.loadAll rfl At.z (by simpa [*] using ag49)) rfl ?_
                              refine J.nilK ?_
                              exact hK zq zc zq2 zc2 zb zv
                            ·
                              intro gh gh' h
                              rfl
                            apply GJ.st2 4 rfl
                            iterate 3 focus (intros; (conv => lhs; simp only [slotsZ, zlAt, vs0, resL, at2, eq_self, Nat.reduceEqDiff, reduceIte, Nat.reduceSub, Nat.reduceAdd, List.cons_append, List.nil_append]); all_goals rfl)
                            ·
                              intro gh X K zq zc zq2 zc2 zb zv hK
                              refine J.call fn35 rfl rfl fun w hH => (toAlgebra_c hbd hbf (by omega) bl6 hH).mono ?_
                              rintro _ w ⟨qdo119, cdo119, qfo119, cfo119, vso119, rfl, hH⟩
                              refine ⟨_, rfl, fun a hF => J.of hF hH ?_⟩
                              refine J.nilK ?_
                              exact hK qdo119 cdo119 qfo119 cfo119 zb vso119
                            ·
                              intro gh gh' h
                              refine ⟨?_, ?_, ?_⟩ <;> (first | simp only [h 1 rfl] | rfl)
                            apply GJ.st0 5 rfl
                            iterate 3 focus (intros; (conv => lhs; simp only [slotsZ, zlAt, vs0, resL, at2, eq_self, Nat.reduceEqDiff, reduceIte, Nat.reduceSub, Nat.reduceAdd, List.cons_append, List.nil_append]); all_goals rfl)
                            ·
                              intro gh X K zq zc zq2 zc2 zb zv hK
                              refine J.p (PR.move rfl) rfl ?_
                              refine J.nilK ?_
                              exact hK zq zc zq2 zc2 zb zv
                            ·
                              intro gh gh' h
                              rfl
                            apply GJ.st1 6 rfl
                            iterate 3 focus (intros; (conv => lhs; simp only [slotsZ, zlAt, vs0, resL, at2, eq_self, Nat.reduceEqDiff, reduceIte, Nat.reduceSub, Nat.reduceAdd, List.cons_append, List.nil_append]); all_goals rfl)
                            ·
                              intro gh X K zq zc zq2 zc2 zb zv hK
                              refine J.call fn66 rfl rfl fun w hH => (toFormS_c hms (by omega) ml6 hH).mono ?_
                              rintro _ w ⟨qo121, co121, vso121, rfl, hH⟩
                              refine ⟨_, rfl, fun a hF => J.of hF hH ?_⟩
                              refine J.nilK ?_
                              exact hK qo121 co121 zq2 zc2 zb vso121
                            ·
                              intro gh gh' h
                              refine ⟨?_, ?_⟩ <;> (first | simp only [h 1 rfl, h 3 rfl] | rfl)
                            apply GJ.st1 7 rfl
                            iterate 3 focus (intros; (conv => lhs; simp only [slotsZ, zlAt, vs0, resL, at2, eq_self, Nat.reduceEqDiff, reduceIte, Nat.reduceSub, Nat.reduceAdd, List.cons_append, List.nil_append]); all_goals rfl)
                            ·
                              intro gh X K zq zc zq2 zc2 zb zv hK
                              refine J.call fn69 rfl rfl fun w hH => hH.lend .z fun Hl1 hle1 hA1 hB1 hH => hH.lend .z fun Hl2 hle2 hA2 hB2 hH => hH.lend .z fun Hl3 hle3 hA3 hB3 hH => hH.lend .z fun Hl4 hle4 hA4 hB4 hH => hH.lend .z fun Hl5 hle5 hA5 hB5 hH => (LinearTableOfMap_c (((((own_ints hA1).le hle2).le hle3).le hle4).le hle5) ((((own_forms haf.wfss hA2).le hle3).le hle4).le hle5) (((own_ints hA3).le hle4).le hle5) ((own_forms hbf.wfss hA4).le hle5) (own_forms hms.wfss hA5) (by omega) (by omega) hl6 (by omega) (by omega) bl6 (by omega) ml6 hH).mono ?_
                              rintro _ w ⟨qo122, co122, vso122, rfl, hH⟩
                              replace hH := hB5 _ _ hH
                              replace hH := hB4 _ _ hH
                              replace hH := hB3 _ _ hH
                              replace hH := hB2 _ _ hH
                              replace hH := hB1 _ _ hH
                              refine ⟨_, rfl, fun a hF => J.of hF hH ?_⟩
                              refine EJ.front (.s (.s (.s (.s .z)))) ?_
                              refine EJ.front (.s (.s (.s (.s .z)))) ?_
                              refine EJ.front (.s (.s (.s (.s .z)))) ?_
                              refine EJ.front (.s (.s (.s (.s .z)))) ?_
                              refine EJ.front (.s (.s (.s (.s .z)))) ?_
                              refine EJ.front (.s (.s (.s (.s (.s .z))))) ?_
                              refine J.nilK ?_
                              exact hK qo122 co122 zq2 zc2 zb vso122
                            ·
                              intro gh gh' h
                              refine ⟨?_, ?_⟩ <;> (first | simp only [h 1 rfl, h 3 rfl, h 5 rfl] | rfl)
                            apply GJ.st0 8 rfl
                            iterate 3 focus (intros; (conv => lhs; simp only [slotsZ, zlAt, vs0, resL, at2, eq_self, Nat.reduceEqDiff, reduceIte, Nat.reduceSub, Nat.reduceAdd, List.cons_append, List.nil_append]); all_goals rfl)
                            ·
                              intro gh X K zq zc zq2 zc2 zb zv hK
                              refine J.p (PR.move rfl) rfl ?_
                              refine J.nilK ?_
                              exact hK zq zc zq2 zc2 zb zv
                            ·
                              intro gh gh' h
                              first | simp only [h 1 rfl, h 3 rfl, h 5 rfl, h 6 rfl] | rfl
                            apply GJ.st0 9 rfl
                            iterate 3 focus (intros; (conv => lhs; simp only [slotsZ, zlAt, vs0, resL, at2, eq_self, Nat.reduceEqDiff, reduceIte, Nat.reduceSub, Nat.reduceAdd, List.cons_append, List.nil_append]); all_goals rfl)
                            ·
                              intro gh X K zq zc zq2 zc2 zb zv hK
                              refine J.p (PR.extract rfl rfl) rfl ?_
                              refine J.nilK ?_
                              exact hK zq zc zq2 zc2 zb zv
                            ·
                              intro gh gh' h
                              first | simp only [h 1 rfl, h 3 rfl, h 5 rfl, h 6 rfl] | rfl
                            apply GJ.st0 10 rfl
                            iterate 3 focus (intros; (conv => lhs; simp only [slotsZ, zlAt, vs0, resL, at2, eq_self, Nat.reduceEqDiff, reduceIte, Nat.reduceSub, Nat.reduceAdd, List.cons_append, List.nil_append]); all_goals rfl)
                            ·
                              intro gh X K zq zc zq2 zc2 zb zv hK
                              refine J.p (PR.extract rfl rfl) rfl ?_
                              refine J.nilK ?_
                              exact hK zq zc zq2 zc2 zb zv
                            ·
                              intro gh gh' h
                              first | simp only [h 1 rfl, h 3 rfl, h 5 rfl, h 6 rfl] | rfl
                            apply GJ.st0 11 rfl
                            iterate 3 focus (intros; (conv => lhs; simp only [slotsZ, zlAt, vs0, resL, at2, eq_self, Nat.reduceEqDiff, reduceIte, Nat.reduceSub, Nat.reduceAdd, List.cons_append, List.nil_append]); all_goals rfl)
                            ·
                              intro gh X K zq zc zq2 zc2 zb zv hK
                              refine J.p (PR.assign rfl) rfl ?_
                              refine J.nilK ?_
                              exact hK zq zc zq2 zc2 zb zv
                            ·
                              intro gh gh' h
                              first | simp only [h 1 rfl, h 3 rfl, h 5 rfl, h 6 rfl] | rfl
                            apply GJ.st0 12 rfl
                            iterate 3 focus (intros; (conv => lhs; simp only [slotsZ, zlAt, vs0, resL, at2, eq_self, Nat.reduceEqDiff, reduceIte, Nat.reduceSub, Nat.reduceAdd, List.cons_append, List.nil_append]); all_goals rfl)
                            ·
                              intro gh X K zq zc zq2 zc2 zb zv hK
                              refine J.p (PR.assign rfl) rfl ?_
                              refine J.nilK ?_
                              exact hK zq zc zq2 zc2 zb zv
                            ·
                              intro gh gh' h
                              first | simp only [h 1 rfl, h 3 rfl, h 5 rfl, h 6 rfl] | rfl
                            apply GJ.close [0, 1, 2, 3, 4, 5, 6, 7, 8, 9, 10, 11] [0, 1, 2, 3, 4, 5, 6, 7, 8, 9, 10, 11, 12, 13, 14, 15, 16, 17, 18, 19, 20, 21, 22, 23, 24, 25, 26, 27, 28, 29, 30, 31, 32] foll0 rfl rfl rfl (by rfl)
                            iterate 2 focus (intros; (conv => lhs; simp only [slotsZ, zlAt, vs0, resL, at2, eq_self, Nat.reduceEqDiff, reduceIte, Nat.reduceSub, Nat.reduceAdd, List.cons_append, List.nil_append]); all_goals rfl)
                            intro gh
                            generalize (gh 1).c = cdo117
                            generalize (gh 1).c2 = cfo117
                            generalize (gh 1).q = qdo117
                            generalize (gh 1).q2 = qfo117
                            generalize (gh 1).vs = vso117
                            generalize (gh 3).c = cdo119
                            generalize (gh 3).c2 = cfo119
                            generalize (gh 3).q = qdo119
                            generalize (gh 3).q2 = qfo119
                            generalize (gh 3).vs = vso119
                            generalize (gh 5).c = co121
                            generalize (gh 5).q = qo121
                            generalize (gh 5).vs = vso121
                            generalize (gh 6).c = co122
                            generalize (gh 6).q = qo122
                            generalize (gh 6).vs = vso122
                            clear gh
                            refine EJ.thenN (hK52 ?_)
                            refine CJ.seq fun _ hK53 _ => ?_
                            refine CJ.seq fun _ hK54 _ => ?_
                            refine CJ.region ?_
                            refine J.p (PR.move rfl) rfl ?_
                            refine J.p (PR.move rfl) rfl ?_
                            refine J.call fn48 rfl rfl fun w hH => hH.lend (.s (.s (.s (.s (.s .z))))) fun Hl1 hle1 hA1 hB1 hH => hH.lend (.s (.s (.s (.s (.s (.s .z)))))) fun Hl2 hle2 hA2 hB2 hH => (eqInt64SS_c ((own_rows hA1).le hle2) (own_rows hA2) (by omega) f3 hH).mono ?_
                            rintro _ w ⟨rfl, hH⟩
                            replace hH := hB2 _ _ hH
                            replace hH := hB1 _ _ hH
                            refine ⟨_, rfl, fun a hF => J.of hF hH ?_⟩
                            refine J.p (PR.not rfl) rfl ?_
                            refine J.p (PR.move rfl) rfl ?_
                            refine J.splitB (jd := 129) rfl (fun hg129 => ?_) (fun hg129 => ?_)
                            ·
                              try have hg129p := of_decide_eq_true hg129
                              refine J.gn rfl rfl rfl hg129 ?_
                              refine J.gn rfl rfl rfl hg129 ?_
                              refine J.gn rfl rfl rfl hg129 ?_
                              refine J.p (PR.pickT rfl hg129 rfl) rfl ?_
                              refine J.nil ?_
                              refine EJ.thenN (hK54 ?_)
                              refine CJ.condT rfl ?_
                              refine CJ.seq fun _ hK55 _ => ?_
                              refine CJ.region ?_
                              refine J.p (PR.assign rfl) rfl ?_
                              refine J.nil ?_
                              refine EJ.thenN (hK55 ?_)
                              refine CJ.ret ?_
                              refine EJ.thenR ?_
                              refine EJ.ret1 rfl (Res.tmp rfl) fun w hH => ?_
                              replace hH := hH.tail
                              replace hH := hH.tail
                              replace hH := hH.tail
                              replace hH := hH.tail
                              replace hH := hH.tail
                              replace hH := hH.tail
                              replace hH := hH.tail
                              replace hH := hH.tail
                              replace hH := hH.tail
                              replace hH := hH.tail
                              replace hH := hH.tail
                              replace hH := hH.tail
                              replace hH := hH.tail
                              replace hH := hH.tail
                              replace hH := hH.tail
                              replace hH := hH.tail
                              replace hH := hH.tail
                              replace hH := hH.tail
                              replace hH := hH.tail
                              replace hH := hH.tail
                              replace hH := hH.tail
                              replace hH := hH.tail
                              replace hH := hH.tail
                              replace hH := hH.tail
                              replace hH := hH.tail
                              replace hH := hH.tail
                              replace hH := hH.tail
                              first | exact ⟨rfl, hH.below⟩ | exact absurd rfl hg129p | exact absurd rfl hg129 | (exfalso; omega) | (simp at hg129; done)
                            ·
                              try have hg129p := of_decide_eq_false hg129
                              refine J.gy (PR.move rfl) rfl rfl rfl hg129 ?_
                              refine J.gy (PR.move rfl) rfl rfl rfl hg129 ?_
                              refine J.gy (PR.neq rfl rfl) rfl rfl rfl hg129 ?_
                              refine J.p (PR.pickF rfl hg129 rfl) rfl ?_
                              refine J.nil ?_
                              refine EJ.thenN (hK54 ?_)
                              refine CJ.condD rfl (fun hc133 => ?_) (fun hc133 => ?_)
                              ·
                                refine CJ.seq fun _ hK56 _ => ?_
                                refine CJ.region ?_
                                refine J.p (PR.assign rfl) rfl ?_
                                refine J.nil ?_
                                refine EJ.thenN (hK56 ?_)
                                refine CJ.ret ?_
                                refine EJ.thenR ?_
                                refine EJ.ret1 rfl (Res.tmp rfl) fun w hH => ?_
                                replace hH := hH.tail
                                replace hH := hH.tail
                                replace hH := hH.tail
                                replace hH := hH.tail
                                replace hH := hH.tail
                                replace hH := hH.tail
                                replace hH := hH.tail
                                replace hH := hH.tail
                                replace hH := hH.tail
                                replace hH := hH.tail
                                replace hH := hH.tail
                                replace hH := hH.tail
                                replace hH := hH.tail
                                replace hH := hH.tail
                                replace hH := hH.tail
                                replace hH := hH.tail
                                replace hH := hH.tail
                                replace hH := hH.tail
                                replace hH := hH.tail
                                replace hH := hH.tail
                                replace hH := hH.tail
                                replace hH := hH.tail
                                replace hH := hH.tail
                                replace hH := hH.tail
                                replace hH := hH.tail
                                replace hH := hH.tail
                                replace hH := hH.tail
                                first | exact ⟨rfl, hH.below⟩ | exact absurd rfl hc133p | exact absurd rfl hc133 | (exfalso; omega) | (simp at hc133; done)
                              ·
                                refine CJ.skip ?_
                                refine EJ.thenN (hK53 ?_)
                                refine CJ.seq fun _ hK57 _ => ?_
                                refine CJ.region ?_
                                refine J.p (PR.assign rfl) rfl ?_
                                refine J.nil ?_
                                refine EJ.thenN (hK57 ?_)
                                refine CJ.seq fun _ hK58 _ => ?_
                                refine CJ.region ?_
                                refine J.p (PR.move rfl) rfl ?_
                                refine J.p (PR.move rfl) rfl ?_
                                refine J.call fn50 rfl rfl fun w hH => hH.lend (.s (.s (.s (.s (.s (.s (.s .z))))))) fun Hl1 hle1 hA1 hB1 hH => (heldInt64SS_c (own_mrows (by omega) hA1) (by omega) (by omega) hH).mono ?_
                                rintro _ w ⟨rfl, hH⟩
                                replace hH := hB1 _ _ hH
                                refine ⟨_, rfl, fun a hF => J.of hF hH ?_⟩
                                refine J.p (PR.assign rfl) rfl ?_
                                refine J.nil ?_
                                refine EJ.thenN (hK58 ?_)
                                refine CJ.seq fun _ hK59 _ => ?_
                                refine CJ.seq fun _ hK60 _ => ?_
                                refine CJ.region ?_
                                refine J.p (PR.move rfl) rfl ?_
                                refine J.p (PR.lss rfl rfl) rfl ?_
                                refine J.nil ?_
                                refine EJ.thenN (hK60 ?_)
                                refine CJ.condD rfl (fun hc138 => ?_) (fun hc138 => ?_)
                                ·
                                  refine CJ.seq fun _ hK61 _ => ?_
                                  refine CJ.region ?_
                                  refine J.p (PR.assign rfl) rfl ?_
                                  refine J.nil ?_
                                  refine EJ.thenN (hK61 ?_)
                                  refine CJ.ret ?_
                                  refine EJ.thenR ?_
                                  refine EJ.ret1 rfl (Res.tmp rfl) fun w hH => ?_
                                  replace hH := hH.tail
                                  replace hH := hH.tail
                                  replace hH := hH.tail
                                  replace hH := hH.tail
                                  replace hH := hH.tail
                                  replace hH := hH.tail
                                  replace hH := hH.tail
                                  replace hH := hH.tail
                                  replace hH := hH.tail
                                  replace hH := hH.tail
                                  replace hH := hH.tail
                                  replace hH := hH.tail
                                  replace hH := hH.tail
                                  replace hH := hH.tail
                                  replace hH := hH.tail
                                  replace hH := hH.tail
                                  replace hH := hH.tail
                                  replace hH := hH.tail
                                  replace hH := hH.tail
                                  replace hH := hH.tail
                                  replace hH := hH.tail
                                  replace hH := hH.tail
                                  replace hH := hH.tail
                                  replace hH := hH.tail
                                  replace hH := hH.tail
                                  replace hH := hH.tail
                                  replace hH := hH.tail
                                  first | exact ⟨rfl, hH.below⟩ | exact absurd rfl hc138p | exact absurd rfl hc138 | (exfalso; omega) | (simp at hc138; done)
                                ·
                                  refine CJ.skip ?_
                                  refine EJ.thenN (hK59 ?_)
                                  refine CJ.seq fun _ hK62 _ => ?_
                                  refine CJ.seq fun _ hK63 _ => ?_
                                  refine CJ.region ?_
                                  refine J.p (PR.move rfl) rfl ?_
                                  refine J.p (PR.move rfl) rfl ?_
                                  refine J.p (PR.neq rfl rfl) rfl ?_
                                  refine J.nil ?_
                                  refine EJ.thenN (hK63 ?_)
                                  refine CJ.condD rfl (fun hc141 => ?_) (fun hc141 => ?_)
                                  ·
                                    refine CJ.seq fun _ hK64 _ => ?_
                                    refine CJ.region ?_
                                    refine J.p (PR.assign rfl) rfl ?_
                                    refine J.nil ?_
                                    refine EJ.thenN (hK64 ?_)
                                    refine CJ.ret ?_
                                    refine EJ.thenR ?_
                                    refine EJ.ret1 rfl (Res.tmp rfl) fun w hH => ?_
                                    replace hH := hH.tail
                                    replace hH := hH.tail
                                    replace hH := hH.tail
                                    replace hH := hH.tail
                                    replace hH := hH.tail
                                    replace hH := hH.tail
                                    replace hH := hH.tail
                                    replace hH := hH.tail
                                    replace hH := hH.tail
                                    replace hH := hH.tail
                                    replace hH := hH.tail
                                    replace hH := hH.tail
                                    replace hH := hH.tail
                                    replace hH := hH.tail
                                    replace hH := hH.tail
                                    replace hH := hH.tail
                                    replace hH := hH.tail
                                    replace hH := hH.tail
                                    replace hH := hH.tail
                                    replace hH := hH.tail
                                    replace hH := hH.tail
                                    replace hH := hH.tail
                                    replace hH := hH.tail
                                    replace hH := hH.tail
                                    replace hH := hH.tail
                                    replace hH := hH.tail
                                    replace hH := hH.tail
                                    first | exact ⟨rfl, hH.below⟩ | exact absurd rfl hc141p | exact absurd rfl hc141 | (exfalso; omega) | (simp at hc141; done)
                                  ·
                                    refine CJ.skip ?_
                                    refine EJ.thenN (hK62 ?_)
                                    refine CJ.seq fun _ hK65 _ => ?_
                                    refine CJ.region ?_
                                    refine J.p (PR.assign rfl) rfl ?_
                                    refine J.nil ?_
                                    refine EJ.thenN (hK65 ?_)
                                    refine CJ.ret ?_
                                    refine EJ.ret1 rfl (Res.tmp rfl) fun w hH => ?_
                                    replace hH := hH.tail
                                    replace hH := hH.tail
                                    replace hH := hH.tail
                                    replace hH := hH.tail
                                    replace hH := hH.tail
                                    replace hH := hH.tail
                                    replace hH := hH.tail
                                    replace hH := hH.tail
                                    replace hH := hH.tail
                                    replace hH := hH.tail
                                    replace hH := hH.tail
                                    replace hH := hH.tail
                                    replace hH := hH.tail
                                    replace hH := hH.tail
                                    replace hH := hH.tail
                                    replace hH := hH.tail
                                    replace hH := hH.tail
                                    replace hH := hH.tail
                                    replace hH := hH.tail
                                    replace hH := hH.tail
                                    replace hH := hH.tail
                                    replace hH := hH.tail
                                    replace hH := hH.tail
                                    replace hH := hH.tail
                                    replace hH := hH.tail
                                    replace hH := hH.tail
                                    replace hH := hH.tail
                                    first | exact ⟨rfl, hH.below⟩ | exact absurd rfl hc141p | exact absurd rfl hc141 | (exfalso; omega) | (simp at hc141; done)
end Go.Proofs.Ytpojpokldncglaa.G
namespace Go.Proofs.Ytpojpokldncglaa.fnExactLinearTableOfMap
open Go.ChangeShapes Go.WideShapes Go.ChangeAt Go.RowKit
open Go.Proofs.Ytpojpokldncglaa.G
theorem u49 : Try.prog.underlying 49 = some (TypeDesc.struct #[{ name := "Degrees", type := 22, offset := 0, embedded := false, tag := "", pkgPath := "", byteOffset := 0 }, { name := "Images", type := 47, offset := 1, embedded := false, tag := "", pkgPath := "", byteOffset := 24 }]) := by kernel_rfl
theorem u22 : Try.prog.underlying 22 = some (TypeDesc.slice 2) := by kernel_rfl
theorem u2 : Try.prog.underlying 2 = some (TypeDesc.int .i64) := by kernel_rfl
theorem u47 : Try.prog.underlying 47 = some (TypeDesc.slice 25) := by kernel_rfl
theorem u25 : Try.prog.underlying 25 = some (TypeDesc.struct #[{ name := "Terms", type := 23, offset := 0, embedded := false, tag := "", pkgPath := "", byteOffset := 0 }]) := by kernel_rfl
theorem u23 : Try.prog.underlying 23 = some (TypeDesc.slice 139) := by kernel_rfl
theorem u139 : Try.prog.underlying 139 = some (TypeDesc.struct #[{ name := "Monomial", type := 85, offset := 0, embedded := false, tag := "", pkgPath := "", byteOffset := 0 }, { name := "Factor", type := 2, offset := 8, embedded := false, tag := "", pkgPath := "", byteOffset := 8 }]) := by kernel_rfl
theorem u85 : Try.prog.underlying 85 = some (TypeDesc.array 8 5) := by kernel_rfl
theorem u5 : Try.prog.underlying 5 = some (TypeDesc.int .u8) := by kernel_rfl
theorem u4 : Try.prog.underlying 4 = some (TypeDesc.bool) := by kernel_rfl
theorem own : ownKnob Try.prog.godebug = none := by kernel_rfl
set_option maxRecDepth 100000 in
theorem lifted (os : Os) (started : os.Started) (H : Type) (enc : TypeId × Value → H) :
    ReturnsInHanded {} Try.checked os 17 .any (Rows.fnExactLinearTableOfMapSpec.pre6 enc Try.prog Try.f17 Rows.fnExactLinearTableOfMapRow.domain false) (Rows.fnExactLinearTableOfMapSpec.post enc Try.prog Try.f17 false true false false) := by
  refine returnsInHanded_of_change_sized (C := Try.checked) own started (by kernel_rfl) Try.func17
    (ChangeSpec.witness6 (enc := enc) (C := Try.checked) false ⟨#[], #[.agg #[.slice none 0 0, .slice none 0 0], .agg #[.slice none 0 0, .slice none 0 0], .slice none 0 0], []⟩ 12 (by kernel_rfl) (by kernel_rfl) (by kernel_rfl) (by kernel_rfl)) ?_
  intro W base args ds gs before hval0 hW hcnd hsz0 _
  have hval : ∀ (j : Nat) t v, Try.f17.params[j]? = some t → args[j]? = some v → Value.okWide Try.prog W .any base t v := hval0
  have hW' := hW
  obtain ⟨p, q, hA0, hV, rfl, hfz, hnd⟩ := hW
  have hA : DataW.TrodAll enc Try.prog W 0 (fun _ => true) true Try.f17.params.toList args.toList ds p := hA0
  rw [Try.params17] at hA hval
  obtain ⟨v0, vs0, d0, ds0, p0, q0, hargs, rfl, rfl, h0, r0⟩ := trodAll_cons hA
  obtain ⟨v1, vs1, d1, ds1, p1, q1, rfl, rfl, rfl, h1, r1⟩ := trodAll_cons r0
  obtain ⟨v2, vs2, d2, ds2, p2, q2, rfl, rfl, rfl, h2, r2⟩ := trodAll_cons r1
  obtain ⟨rfl, rfl, rfl⟩ := trodAll_nil r2
  obtain rfl : args = #[v0, v1, v2] := by cases args; simp_all
  obtain ⟨rfl, rfl⟩ := trodVars_none hV
  obtain ⟨q0d, c0d, ds0, q0f, c0f, fs0, rfl, X0, F0, le0, fl0⟩ := openV_alg u49 rfl rfl rfl rfl (by kernel_rfl) (by kernel_rfl) (by kernel_rfl) u22 u2 (by kernel_rfl) u47 (by kernel_rfl) (fun n l y hy => tr_form u25 rfl rfl (by kernel_rfl) (by kernel_rfl) u23 (by kernel_rfl) u139 rfl rfl rfl rfl u85 u5 (by kernel_rfl) (by kernel_rfl) u2 (by kernel_rfl) hy) (hval 0 49 v0 rfl rfl) h0
  obtain ⟨q1d, c1d, ds1, q1f, c1f, fs1, rfl, X1, F1, le1, fl1⟩ := openV_alg u49 rfl rfl rfl rfl (by kernel_rfl) (by kernel_rfl) (by kernel_rfl) u22 u2 (by kernel_rfl) u47 (by kernel_rfl) (fun n l y hy => tr_form u25 rfl rfl (by kernel_rfl) (by kernel_rfl) u23 (by kernel_rfl) u139 rfl rfl rfl rfl u85 u5 (by kernel_rfl) (by kernel_rfl) u2 (by kernel_rfl) hy) (hval 1 49 v1 rfl rfl) h1
  obtain ⟨q2, c2, fs2, rfl, X2, le2, fl2⟩ := openV_forms u47 (by kernel_rfl) (fun n l y hy => tr_form u25 rfl rfl (by kernel_rfl) (by kernel_rfl) u23 (by kernel_rfl) u139 rfl rfl rfl rfl u85 u5 (by kernel_rfl) (by kernel_rfl) u2 (by kernel_rfl) hy) (hval 2 47 v2 rfl rfl) h2
  clear hA0 hval0 hsz0
  refine ((lawLinearTableOfMap_c X0 F0 X1 F1 X2 le0 fl0 le1 fl1 le2 fl2 (Hp.start (H := hp W) fun _ _ h => h)).mono fun e W' ⟨he, bel⟩ => ?_)
  subst he
  exact ⟨_, rfl, law_post (f := Try.f17) (by kernel_rfl) (by kernel_rfl) rfl rfl u4 rfl hW' bel⟩
theorem joined : joinedFacts Try.prog 17 Try.f17 Rows.fnExactLinearTableOfMapSpec Rows.fnExactLinearTableOfMapRow = true := by
  unfold joinedFacts
  simp only [Bool.and_eq_true]
  repeat' apply And.intro
  all_goals first
    | with_reducible exact Facts.fEnter
    | with_reducible exact Facts.fLaid
    | with_reducible exact Facts.fMaps
    | with_reducible exact Facts.fHeard
    | (rw [Facts.fMake]; rfl)
    | (rw [Facts.fLift]; rfl)
    | (rw [Facts.fKeys]; rfl)
    | (rw [Facts.fStops]; rfl)
    | (rw [Facts.fStopK]; rfl)
    | as_aux_lemma => kernel_rfl
theorem over : Rows.fnExactLinearTableOfMapRow.holds Try.pinned (OpenSpec.ofChange Rows.fnExactLinearTableOfMapSpec) :=
  OpenClaim.holds_of_wide 17 Try.f17 rfl rfl rfl rfl rfl rfl rfl ⟨rfl, rfl, rfl, rfl, rfl⟩ rfl rfl rfl rfl rfl (by as_aux_lemma => kernel_rfl) Try.func17 joined
    (of_decide_eq_true (by as_aux_lemma => kernel_rfl)) (by unfold Func.isWrapper; first | (rw [if_pos (by decide +kernel)]; kernel_rfl) | (rw [if_neg (by decide +kernel)]; exact ⟨rfl, rfl⟩))
    (fun os started H enc _ => lifted os started H enc)
theorem proved : Rows.FnExactLinearTableOfMapSaid := over
#print axioms proved
end Go.Proofs.Ytpojpokldncglaa.fnExactLinearTableOfMap
namespace Go.Proofs.Ytpojpokldncglaa
theorem fnExactLinearTableOfMap_holds : Rows.FnExactLinearTableOfMapSaid := fnExactLinearTableOfMap.proved
end Go.Proofs.Ytpojpokldncglaa
