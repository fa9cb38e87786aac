/- The row: the law answers true whatever the input, and the input reads as it did. No condition. -/
import Derived.Test.YtpojpokldncglaaRows
import Derived.Test.YtpojpokldncglaaProg
import Derived.WalkKit
import Derived.KernelRfl
import Derived.JoinedOf
import Derived.Maps.AppendAt
import Derived.Still
import Derived.ProofKit
import Derived.OpenShut
import Derived.StillTail
import Derived.Deep.Upon
import Derived.WalkSpells
import Derived.Maps.Range
import Derived.DeepKeys4
import Derived.ChangeOld
import Derived.Below
import Derived.SizedLaws
import Derived.Test.YtpojpokldncglaaPIsmg
set_option linter.unusedVariables false
set_option linter.unusedSimpArgs false
namespace Go.Proofs.Ytpojpokldncglaa.G
open Go Go.RowKit
namespace Qk
theorem u107 : Try.prog.underlying 107 = some (TypeDesc.map 94 2) := by kernel_rfl
theorem u190 : Try.prog.underlying 190 = some (TypeDesc.slice 107) := by kernel_rfl
theorem u193 : Try.prog.underlying 193 = some (TypeDesc.struct #[{ name := "from", type := 22, offset := 0, embedded := false, tag := "", pkgPath := "loop.example/g01219/impl", byteOffset := 0 }, { name := "to", type := 22, offset := 1, embedded := false, tag := "", pkgPath := "loop.example/g01219/impl", byteOffset := 24 }, { name := "images", type := 190, offset := 2, embedded := false, tag := "", pkgPath := "loop.example/g01219/impl", byteOffset := 48 }, { name := "known", type := 191, offset := 3, embedded := false, tag := "", pkgPath := "loop.example/g01219/impl", byteOffset := 72 }]) := by kernel_rfl
theorem u22 : Try.prog.underlying 22 = some (TypeDesc.slice 2) := by kernel_rfl
theorem u29 : Try.prog.underlying 29 = some (TypeDesc.struct #[{ name := "Terms", type := 27, offset := 0, embedded := false, tag := "", pkgPath := "", byteOffset := 0 }]) := by kernel_rfl
theorem u39 : Try.prog.underlying 39 = some (TypeDesc.slice 29) := by kernel_rfl
theorem u41 : Try.prog.underlying 41 = some (TypeDesc.struct #[{ name := "Degrees", type := 22, offset := 0, embedded := false, tag := "", pkgPath := "", byteOffset := 0 }, { name := "Images", type := 39, offset := 1, embedded := false, tag := "", pkgPath := "", byteOffset := 24 }]) := by kernel_rfl
theorem sz107 : Size Try.prog 107 1 := by unfold Size; kernel_rfl
theorem sz190 : Size Try.prog 190 1 := by unfold Size; kernel_rfl
theorem sz22 : Size Try.prog 22 1 := by unfold Size; kernel_rfl
theorem sz29 : Size Try.prog 29 1 := by unfold Size; kernel_rfl
theorem sz39 : Size Try.prog 39 1 := by unfold Size; kernel_rfl
theorem ze29 : Zero Try.prog 29 [.slice none 0 0] := by unfold Zero; kernel_rfl
theorem pl107 : Plain Try.prog 107 := ⟨_, u107, rfl⟩
theorem pl190 : Plain Try.prog 190 := ⟨_, u190, rfl⟩
theorem pl22 : Plain Try.prog 22 := ⟨_, u22, rfl⟩
theorem pl39 : Plain Try.prog 39 := ⟨_, u39, rfl⟩
theorem ag29 : Agg Try.prog 29 1 := ⟨_, u29, rfl, by kernel_rfl⟩
theorem fn181 : Fn Try.prog 181 := ⟨_, Try.func181, by kernel_rfl, rfl⟩
theorem fn182 : Fn Try.prog 182 := ⟨_, Try.func182, by kernel_rfl, rfl⟩
theorem fn183 : Fn Try.prog 183 := ⟨_, Try.func183, by kernel_rfl, rfl⟩
theorem fn95 : Fn Try.prog 95 := ⟨_, Try.func95, by kernel_rfl, rfl⟩
theorem fn96 : Fn Try.prog 96 := ⟨_, Try.func96, by kernel_rfl, rfl⟩
theorem foll0 : Try.prog.follows .mixedOrders = true := by kernel_rfl
end Qk
open Qk
section
variable {P : Program} {ops : Array Oper} {Q : Exit → Act → World → Prop} {n : Nat} {B : World} {H0 H : HP} {rest : List Oper} {us : List (Nat × Value)} {L L' : List SA}
theorem J.reH (g : ∀ w, Hp B H0 H L w → Hp B H0 H L' w) (h : J P ops Q n B H0 rest us H L') : J P ops Q n B H0 rest us H L := fun a w hF hH => h a w hF (g w hH)
end
set_option maxHeartbeats 8000000 in
set_option maxRecDepth 10000 in
theorem keeps_c {B : World} {H0 H : HP} {L : List SA} {w : World} {ba : Nat} {qad qaf : Option Addr} {cad caf : Nat} {ad : List Int} {af : List (List Term)} {bb : Nat} {qbd qbf : Option Addr} {cbd cbf : Nat} {bd : List Int} {bf : List (List Term)} {qms : Option Addr} {cms : Nat} {ms : List (List Term)}  (pad : CellAt H ba 0 (.slice qad ad.length cad)) (paf : CellAt H ba 1 (.slice qaf af.length caf)) (had : Ints H qad ad) (haf : Forms H qaf af) (pbd : CellAt H bb 0 (.slice qbd bd.length cbd)) (pbf : CellAt H bb 1 (.slice qbf bf.length cbf)) (hbd : Ints H qbd bd) (hbf : Forms H qbf bf) (hms : Forms H qms ms) (hAa : isAlg ad af = true) (hBb : isAlg bd bf = true) (hlen : ms.length = ad.length) (hM9 : mpsOk bd ms ad = true) (hH : Hp B H0 H L w) :
    Calls Try.prog 164 [.pointer (some ⟨ba, 0, none⟩), .pointer (some ⟨bb, 0, none⟩), .slice qms ms.length cms].toArray w fun e w' => e = .returned (.bool (kps bd bf ms af)) ∧ Hp B H0 H L w' := by
  refine CJ.enter Try.func164 rfl 46 rfl rfl [(0, .pointer (some ⟨ba, 0, none⟩)), (1, .pointer (some ⟨bb, 0, none⟩)), (2, .slice qms ms.length cms)] rfl hH ?_
  have hw0 := hH.old
  have hw1 := hH.le
  clear hH
  have hAo := isAlg_ok hAa haf.wfss
  have hBo := isAlg_ok hBb hbf.wfss
  have hn := hBo.hn
  have hd := hBo.hd
  have hal := hAo.hl
  have han := hAo.hn
  have hmf : Fok 20 ms := fun i hi => ⟨isForm_sok (hms.wfss.fm i) (Bool.and_eq_true_iff.1 (mpsOk_at hM9 hi)).1, by have := isForm_len4 (Bool.and_eq_true_iff.1 (mpsOk_at hM9 hi)).1; omega⟩
  refine CJ.seq fun _ hK1 _ => ?_
  refine CJ.region ?_
  refine J.p (PR.assign rfl) rfl ?_
  refine J.nil ?_
  refine EJ.thenN (hK1 ?_)
  refine CJ.seq fun _ hK2 _ => ?_
  refine CJ.head [[], [0], [1], [2], [], [4], [5], [6], []] (by kernel_rfl) ?_
  refine HJ.op (fun gh => PR.move rfl) ?_
  refine HJ.op (fun gh => PR.nilCheck rfl) ?_
  refine HJ.op (fun gh => PR.fldA u41 rfl sz22 rfl) ?_
  refine HJ.op (fun gh => PR.loadH (q := some ⟨ba, 0, none⟩) (k := 0) rfl pad pl22) ?_
  refine HJ.op (fun gh => PR.move rfl) ?_
  refine HJ.op (fun gh => PR.nilCheck rfl) ?_
  refine HJ.op (fun gh => PR.fldA u41 rfl sz22 rfl) ?_
  refine HJ.op (fun gh => PR.loadH (q := some ⟨bb, 0, none⟩) (k := 0) rfl pbd pl22) ?_
  refine HJ.op (fun gh => PR.move rfl) ?_
  refine HJ.close 9 1 foll0 (by kernel_rfl) rfl rfl fun gh => ?_
  refine J.conv (us' := (10, _) :: (11, _) :: (12, _) :: (13, _) :: (14, _) :: (15, _) :: (16, _) :: (17, _) :: (18, _) :: _) (L' := _) rfl rfl ?_
  refine J.call fn181 rfl rfl fun w hH => (leaderOf_c had hbd hms hmf (by omega) hH).mono ?_
  rintro _ w ⟨g19, q19, c19, bs19, kb19, rfl, hH⟩
  refine ⟨_, rfl, fun a hF => J.of hF hH ?_⟩
  refine J.nil ?_
  refine EJ.still ?_
  refine JS.op (PR.assign rfl) rfl ?_
  refine JS.nil ?_
  refine EJ.thenN (hK2 ?_)
  refine CJ.seq fun _ hK3 _ => ?_
  refine CJ.seq fun _ hK4 _ => ?_
  refine CJ.region ?_
  refine J.freezeRow .z fun H7 hle7 hc7 => ?_
  refine J.fixA .z fun H8 hle8 hA8 => ?_
  refine J.fixA .z fun H9 hle9 hA9 => ?_
  refine J.reH (fun w hH => Hp.knw0 (f := kF bd (ssF ms)) (vs := nilVs) (hH.front .z)) ?_
  have hle79 := hle8.trans hle9
  have pl0 : CellAt H9 g19 0 (.slice qad ad.length cad) := CellAt.le (hc7 0 _ rfl) hle79
  have pl1 : CellAt H9 g19 1 (.slice qbd bd.length cbd) := CellAt.le (hc7 1 _ rfl) hle79
  have pl2 : CellAt H9 g19 2 (.slice q19 ms.length c19) := CellAt.le (hc7 2 _ rfl) hle79
  have pl3 : CellAt H9 g19 3 (.map (some kb19)) := CellAt.le (hc7 3 _ rfl) hle79
  have hli : ImR H9 q19 (ms.length) (ssF ms) := fun i hi => ⟨bs19 i, own_reads hA9 i _ (mapsC_get hi), (imgs_H hA8 hi).le hle9⟩
  replace pad := pad.le hle7
  replace paf := paf.le hle7
  replace had := had.le hle7
  replace haf := haf.le hle7
  replace pbd := pbd.le hle7
  replace pbf := pbf.le hle7
  replace hbd := hbd.le hle7
  replace hbf := hbf.le hle7
  replace hms := hms.le hle7
  replace pad := pad.le hle8
  replace paf := paf.le hle8
  replace had := had.le hle8
  replace haf := haf.le hle8
  replace pbd := pbd.le hle8
  replace pbf := pbf.le hle8
  replace hbd := hbd.le hle8
  replace hbf := hbf.le hle8
  replace hms := hms.le hle8
  replace pad := pad.le hle9
  replace paf := paf.le hle9
  replace had := had.le hle9
  replace haf := haf.le hle9
  replace pbd := pbd.le hle9
  replace pbf := pbf.le hle9
  replace hbd := hbd.le hle9
  replace hbf := hbf.le hle9
  replace hms := hms.le hle9
  refine J.p (PR.move rfl) rfl ?_
  refine J.p (PR.nilCheck rfl) rfl ?_
  refine J.p (PR.fldA u41 rfl sz39 rfl) rfl ?_
  refine J.p (PR.loadH (q := some ⟨ba, 0, none⟩) (k := 1) rfl paf pl39) rfl ?_
  refine J.p (PR.lenSlice u39 rfl rfl) rfl ?_
  refine J.p (PR.move rfl) rfl ?_
  refine J.nil ?_
  refine EJ.thenN (hK4 ?_)
  refine CJ.block ?_
  refine CJ.loopU (σ := Nat × Vs × Nat) (fun ⟨km, kv, i⟩ => [(25, .int .i64 (i : Int))]) (fun ⟨km, kv, i⟩ => H9) (fun ⟨km, kv, i⟩ => knw (kF bd (ssF ms)) kb19 km kv :: L) (fun ⟨km, kv, i⟩ => i ≤ af.length ∧ ∀ j, j < i → (kpS bd bf ms af j).length = 0) (fun ⟨km, kv, i⟩ => af.length - i) (0, nilVs, 0) ⟨by omega, fun j hj => by omega⟩ ⟨rfl, trivial⟩ rfl rfl ?_
  rintro ⟨km, kv, i⟩ ⟨hi, hI⟩ _ hAg0
  refine CJ.seq fun _ hK5 _ => ?_
  refine CJ.region ?_
  refine J.p (PR.lss rfl rfl) rfl ?_
  refine J.nil ?_
  refine EJ.thenN (hK5 ?_)
  refine CJ.seq fun _ hK6 _ => ?_
  refine CJ.condD rfl (fun h26 => ?_) (fun h26 => ?_)
  ·
    have hka : i < af.length := by omega
    have hLd := Ld.map hAa (isAlg_deg hBb) haf.wfss hms.wfss hlen (fun j hj => mpsOk_at hM9 hj) hka
    rw [hlen] at hLd
    have hls := hLd.lead
    have hls6 : Sok 60 _ := hls.mono (by omega)
    have hka4 := isForm_sok (haf.wfss.fm i) (hAo.ok i hka)
    have ha4 := isForm_len4 (hAo.ok i hka)
    have hm5 := (Bool.and_eq_true_iff.1 (mpsOk_at hM9 (show i < ms.length by omega))).1
    have hms9 := isForm_sok (hms.wfss.fm i) hm5
    have hmk := isForm_kex hd hn (hms.wfss.fm i) hm5
    have hoc := Ex.occ hmk hBo.hl
    have hds := dS_sok (ds := bd) hms9 hBo.fok hoc
    obtain ⟨gi, hgi, hsi⟩ := hli i (by omega)
    refine CJ.skip ?_
    refine EJ.thenN (hK6 ?_)
    refine CJ.seq fun _ hK7 _ => ?_
    refine CJ.block ?_
    refine CJ.seq fun _ hK8 _ => ?_
    refine CJ.region ?_
    refine J.p (PR.move rfl) rfl ?_
    refine J.p (PR.idx1 u39 sz29 rfl rfl rfl (by omega) haf.sm) rfl ?_
    obtain ⟨qe29, ce29, he29, le29, Fe29⟩ := haf i (by omega)
    refine J.p (PR.loadHagg (cs := [_]) rfl (one_cell he29) (haf.sm (i := i) (by omega)) ag29) rfl ?_
    refine J.alloc ze29 rfl fun g9 => ?_
    refine J.p (PR.assign rfl) rfl ?_
    refine J.storeAll rfl rfl (by first | exact bytesC_one _ | exact intsC_one _ | exact Term.c_one _ | simp [Value.oneCell']) (by simpa [*] using sz29) (by simp [*]) At.z ?_
    refine J.nil ?_
    refine EJ.thenN (hK8 ?_)
    refine CJ.seq fun _ hK9 _ => ?_
    refine CJ.openR (Rs := [_, _]) 15 [[], [], [1], [0, 1, 2], [], [], [5], [5, 6], [5, 6, 7], [], [5, 6, 7, 8, 9], [5, 6, 7, 8, 9, 10], [0, 1, 2, 3, 4, 5, 6, 7, 8, 9, 10, 11], [0, 1, 2, 3, 4, 5, 6, 7, 8, 9, 10, 11, 12], [0, 1, 2, 3, 4, 5, 6, 7, 8, 9, 10, 11, 12, 13]] [[], [15], [], [2], [], [], [], [], [], [], [], [], [], [3, 12], []] [[], [], [], [16], [], [], [], [], [], [], [], [], [], [], []] rfl rfl (by kernel_rfl) ?_
    apply GJ.st0 1 rfl
    iterate 3 focus (intros; (conv => lhs; simp only [slotsZ, zlAt, vs0, resL, at2, eq_self, Nat.reduceEqDiff, reduceIte, Nat.reduceSub, Nat.reduceAdd, List.cons_append, List.nil_append]); all_goals rfl)
    ·
      intro gh X K zq zc zq2 zc2 zb zv hK
      refine J.p (PR.move rfl) rfl ?_
      refine J.nilK ?_
      exact hK zq zc zq2 zc2 zb zv
    ·
      intro gh gh' h
      rfl
    apply GJ.st0 2 rfl
    iterate 3 focus (intros; (conv => lhs; simp only [slotsZ, zlAt, vs0, resL, at2, eq_self, Nat.reduceEqDiff, reduceIte, Nat.reduceSub, Nat.reduceAdd, List.cons_append, List.nil_append]); all_goals rfl)
    ·
      intro gh X K zq zc zq2 zc2 zb zv hK
      refine J.p (PR.loadAll rfl At.z (by simpa [*] using ag29)) rfl ?_
      refine J.nilK ?_
      exact hK zq zc zq2 zc2 zb zv
    ·
      intro gh gh' h
      rfl
    apply GJ.st1 3 rfl
    iterate 3 focus (intros; (conv => lhs; simp only [slotsZ, zlAt, vs0, resL, at2, eq_self, Nat.reduceEqDiff, reduceIte, Nat.reduceSub, Nat.reduceAdd, List.cons_append, List.nil_append]); all_goals rfl)
    ·
      intro gh X K zq zc zq2 zc2 zb zv hK
      refine J.call fn96 rfl rfl fun w hH => (sumOf_c Fe29 hka4 (by omega) hH).mono ?_
      rintro _ w ⟨bo32, rfl, hH⟩
      refine ⟨_, rfl, fun a hF => J.of hF hH ?_⟩
      refine J.nilK ?_
      exact hK zq zc zq2 zc2 bo32 zv
    ·
      intro gh gh' h
      refine ⟨?_, ?_⟩ <;> rfl
    apply GJ.st2 4 rfl
    iterate 3 focus (intros; (conv => lhs; simp only [slotsZ, zlAt, vs0, resL, at2, eq_self, Nat.reduceEqDiff, reduceIte, Nat.reduceSub, Nat.reduceAdd, List.cons_append, List.nil_append]); all_goals rfl)
    ·
      intro gh X K zq zc zq2 zc2 zb zv hK
      refine J.call fn182 rfl rfl fun w hH => hH.lend (.s .z) fun Hl1 hle1 hA1 hB1 hH => (leadTo_c (pl0.le hle1) (pl1.le hle1) (pl2.le hle1) (pl3.le hle1) (had.le hle1) (hbd.le hle1) (hli.le hle1) (omap_H hA1) hka4 hLd (by omega) (by omega) (by omega) (hH.front .z)).mono ?_
      rintro _ w ⟨bo33, mo33, vo33, rfl, hH⟩
      replace hH := hB1 _ _ hH
      refine ⟨_, rfl, fun a hF => J.of hF hH ?_⟩
      refine EJ.front .z ?_
      refine EJ.front (.s (.s .z)) ?_
      refine EJ.front (.s (.s .z)) ?_
      refine J.nilK ?_
      exact hK zq mo33 zq2 zc2 bo33 vo33
    ·
      intro gh gh' h
      refine ⟨?_, ?_, ?_⟩ <;> (first | simp only [h 2 rfl] | rfl)
    apply GJ.st0 5 rfl
    iterate 3 focus (intros; (conv => lhs; simp only [slotsZ, zlAt, vs0, resL, at2, eq_self, Nat.reduceEqDiff, reduceIte, Nat.reduceSub, Nat.reduceAdd, List.cons_append, List.nil_append]); all_goals rfl)
    ·
      intro gh X K zq zc zq2 zc2 zb zv hK
      refine J.p (PR.move rfl) rfl ?_
      refine J.nilK ?_
      exact hK zq zc zq2 zc2 zb zv
    ·
      intro gh gh' h
      rfl
    apply GJ.st0 6 rfl
    iterate 3 focus (intros; (conv => lhs; simp only [slotsZ, zlAt, vs0, resL, at2, eq_self, Nat.reduceEqDiff, reduceIte, Nat.reduceSub, Nat.reduceAdd, List.cons_append, List.nil_append]); all_goals rfl)
    ·
      intro gh X K zq zc zq2 zc2 zb zv hK
      refine J.p (PR.move rfl) rfl ?_
      refine J.nilK ?_
      exact hK zq zc zq2 zc2 zb zv
    ·
      intro gh gh' h
      rfl
    apply GJ.st0 7 rfl
    iterate 3 focus (intros; (conv => lhs; simp only [slotsZ, zlAt, vs0, resL, at2, eq_self, Nat.reduceEqDiff, reduceIte, Nat.reduceSub, Nat.reduceAdd, List.cons_append, List.nil_append]); all_goals rfl)
    ·
      intro gh X K zq zc zq2 zc2 zb zv hK
      refine J.p (PR.nilCheck rfl) rfl ?_
      refine J.nilK ?_
      exact hK zq zc zq2 zc2 zb zv
    ·
      intro gh gh' h
      rfl
    apply GJ.st0 8 rfl
    iterate 3 focus (intros; (conv => lhs; simp only [slotsZ, zlAt, vs0, resL, at2, eq_self, Nat.reduceEqDiff, reduceIte, Nat.reduceSub, Nat.reduceAdd, List.cons_append, List.nil_append]); all_goals rfl)
    ·
      intro gh X K zq zc zq2 zc2 zb zv hK
      refine J.p (PR.fldA u193 rfl sz190 rfl) rfl ?_
      refine J.nilK ?_
      exact hK zq zc zq2 zc2 zb zv
    ·
      intro gh gh' h
      rfl
    apply GJ.st0 9 rfl
    iterate 3 focus (intros; (conv => lhs; simp only [slotsZ, zlAt, vs0, resL, at2, eq_self, Nat.reduceEqDiff, reduceIte, Nat.reduceSub, Nat.reduceAdd, List.cons_append, List.nil_append]); all_goals rfl)
    ·
      intro gh X K zq zc zq2 zc2 zb zv hK
      refine J.p (PR.loadH (q := some ⟨g19, 0, none⟩) (k := 2) rfl pl2 pl190) rfl ?_
      refine J.nilK ?_
      exact hK zq zc zq2 zc2 zb zv
    ·
      intro gh gh' h
      rfl
    apply GJ.st0 10 rfl
    iterate 3 focus (intros; (conv => lhs; simp only [slotsZ, zlAt, vs0, resL, at2, eq_self, Nat.reduceEqDiff, reduceIte, Nat.reduceSub, Nat.reduceAdd, List.cons_append, List.nil_append]); all_goals rfl)
    ·
      intro gh X K zq zc zq2 zc2 zb zv hK
      refine J.p (PR.move rfl) rfl ?_
      refine J.nilK ?_
      exact hK zq zc zq2 zc2 zb zv
    ·
      intro gh gh' h
      rfl
    apply GJ.st0 11 rfl
    iterate 3 focus (intros; (conv => lhs; simp only [slotsZ, zlAt, vs0, resL, at2, eq_self, Nat.reduceEqDiff, reduceIte, Nat.reduceSub, Nat.reduceAdd, List.cons_append, List.nil_append]); all_goals rfl)
    ·
      intro gh X K zq zc zq2 zc2 zb zv hK
      refine J.p (PR.idx1 (i' := i) u190 sz107 rfl rfl rfl (by omega) hli.sm) rfl ?_
      refine J.nilK ?_
      exact hK zq zc zq2 zc2 zb zv
    ·
      intro gh gh' h
      rfl
    apply GJ.st0 12 rfl
    iterate 3 focus (intros; (conv => lhs; simp only [slotsZ, zlAt, vs0, resL, at2, eq_self, Nat.reduceEqDiff, reduceIte, Nat.reduceSub, Nat.reduceAdd, List.cons_append, List.nil_append]); all_goals rfl)
    ·
      intro gh X K zq zc zq2 zc2 zb zv hK
      refine J.p (PR.loadH rfl hgi pl107) rfl ?_
      refine J.nilK ?_
      exact hK zq zc zq2 zc2 zb zv
    ·
      intro gh gh' h
      rfl
    apply GJ.st1 13 rfl
    iterate 3 focus (intros; (conv => lhs; simp only [slotsZ, zlAt, vs0, resL, at2, eq_self, Nat.reduceEqDiff, reduceIte, Nat.reduceSub, Nat.reduceAdd, List.cons_append, List.nil_append]); all_goals rfl)
    ·
      intro gh X K zq zc zq2 zc2 zb zv hK
      refine J.call fn95 rfl rfl fun w hH => (d_c pbd pbf hbd hbf hsi hms9 hn hd hBo.fok hBo.hl hoc (by omega) hH).mono ?_
      rintro _ w ⟨bo42, rfl, hH⟩
      refine ⟨_, rfl, fun a hF => J.of hF hH ?_⟩
      refine J.nilK ?_
      exact hK zq zc zq2 zc2 bo42 zv
    ·
      intro gh gh' h
      refine ⟨?_, ?_⟩ <;> (first | simp only [h 2 rfl, h 3 rfl] | rfl)
    apply GJ.st0 14 rfl
    iterate 3 focus (intros; (conv => lhs; simp only [slotsZ, zlAt, vs0, resL, at2, eq_self, Nat.reduceEqDiff, reduceIte, Nat.reduceSub, Nat.reduceAdd, List.cons_append, List.nil_append]); all_goals rfl)
    ·
      intro gh X K zq zc zq2 zc2 zb zv hK
      refine J.call fn183 rfl rfl fun w hH => hH.lend .z fun Hl1 hle1 hA1 hB1 hH => hH.lend (.s .z) fun Hl2 hle2 hA2 hB2 hH => (same_c ((omap_H hA1).le hle2) hls6 (omap_H hA2) hds (by omega) (by omega) hH).mono ?_
      rintro _ w ⟨rfl, hH⟩
      replace hH := hB2 _ _ hH
      replace hH := hB1 _ _ hH
      refine ⟨_, rfl, fun a hF => J.of hF hH ?_⟩
      refine EJ.front (.s .z) ?_
      refine EJ.front (.s (.s .z)) ?_
      refine EJ.front (.s (.s .z)) ?_
      refine J.nilK ?_
      exact hK zq zc zq2 zc2 zb zv
    ·
      intro gh gh' h
      first | simp only [h 2 rfl, h 3 rfl, h 12 rfl] | rfl
    apply GJ.st0 15 rfl
    iterate 3 focus (intros; (conv => lhs; simp only [slotsZ, zlAt, vs0, resL, at2, eq_self, Nat.reduceEqDiff, reduceIte, Nat.reduceSub, Nat.reduceAdd, List.cons_append, List.nil_append]); all_goals rfl)
    ·
      intro gh X K zq zc zq2 zc2 zb zv hK
      refine J.p (PR.not rfl) rfl ?_
      refine J.nilK ?_
      exact hK zq zc zq2 zc2 zb zv
    ·
      intro gh gh' h
      first | simp only [h 2 rfl, h 3 rfl, h 12 rfl] | rfl
    apply GJ.close [0, 1, 2, 3, 4, 5, 6, 7, 8, 9, 10, 11, 12, 13, 14] [0, 1, 2, 3, 4, 5, 6, 7, 8, 9, 10, 11, 12, 13, 14, 15] foll0 rfl rfl rfl (by rfl)
    iterate 2 focus (intros; (conv => lhs; simp only [slotsZ, zlAt, vs0, resL, at2, eq_self, Nat.reduceEqDiff, reduceIte, Nat.reduceSub, Nat.reduceAdd, List.cons_append, List.nil_append]); all_goals rfl)
    intro gh
    generalize (gh 2).b = bo32
    generalize (gh 3).b = bo33
    generalize (gh 3).c = mo33
    generalize (gh 3).vs = vo33
    generalize (gh 12).b = bo42
    clear gh
    refine EJ.thenN (hK9 ?_)
    refine CJ.cond rfl (fun h44 => ?_) (fun h44 => ?_)
    ·
      refine CJ.seq fun _ hK10 _ => ?_
      refine CJ.region ?_
      refine J.p (PR.assign rfl) rfl ?_
      refine J.nil ?_
      refine EJ.thenN (hK10 ?_)
      refine CJ.ret ?_
      refine EJ.inR ?_
      refine EJ.thenR ?_
      refine EJ.thenR ?_
      refine EJ.inR ?_
      refine EJ.thenR ?_
      refine EJ.ret1 rfl (Res.tmp rfl) fun w hH => ?_
      replace hH := hH.tail
      replace hH := hH.tail
      replace hH := hH.tail
      replace hH := hH.tail
      replace hH := hH.tail
      exact ⟨rb (by rw [kps_bad (i := i) (by omega) (by show ¬ (acc (leadS bd (ssF ms) ms.length _) _).length = 0; rw [hlen]; simpa [ssF] using h44)]), hH.weaken (hle7.trans hle79) hw0 hw1⟩
    ·
      refine CJ.skip ?_
      refine EJ.inN ?_
      refine EJ.thenN (hK7 ?_)
      refine CJ.region ?_
      refine J.p (PR.add rfl rfl (by first | exact nw _ (by omega) | rfl)) rfl ?_
      refine J.p (PR.move rfl) rfl ?_
      refine J.nil ?_
      refine EJ.thenN ?_
      refine EJ.drop .z ?_
      refine EJ.drop .z ?_
      refine EJ.drop (.s .z) ?_
      refine EJ.drop (.s .z) ?_
      exact hAg0 (mo33, vo33, i + 1) ⟨by omega, upto hI (by show (acc (leadS bd (ssF ms) ms.length _) _).length = 0; rw [hlen]; simpa [ssF] using h44)⟩ (by show af.length - (i + 1) < af.length - i; omega) 24 rfl rfl ⟨rfl, trivial⟩ rfl rfl
  ·
    refine CJ.exit ?_
    refine EJ.thenE ?_
    refine EJ.thenE ?_
    refine EJ.inE ?_
    refine EJ.thenN (hK3 ?_)
    refine CJ.seq fun _ hK11 _ => ?_
    refine CJ.region ?_
    refine J.p (PR.assign rfl) rfl ?_
    refine J.nil ?_
    refine EJ.thenN (hK11 ?_)
    refine CJ.ret ?_
    refine EJ.ret1 rfl (Res.tmp rfl) fun w hH => ?_
    replace hH := hH.tail
    exact ⟨rb (by rw [kps_good (fun j hj => hI j (by omega))]), hH.weaken (hle7.trans hle79) hw0 hw1⟩
end Go.Proofs.Ytpojpokldncglaa.G
namespace Go.Proofs.Ytpojpokldncglaa.G
open Go Go.RowKit
namespace Ql
theorem u22 : Try.prog.underlying 22 = some (TypeDesc.slice 2) := by kernel_rfl
theorem u41 : Try.prog.underlying 41 = some (TypeDesc.struct #[{ name := "Degrees", type := 22, offset := 0, embedded := false, tag := "", pkgPath := "", byteOffset := 0 }, { name := "Images", type := 39, offset := 1, embedded := false, tag := "", pkgPath := "", byteOffset := 24 }]) := by kernel_rfl
theorem sz22 : Size Try.prog 22 1 := by unfold Size; kernel_rfl
theorem pl22 : Plain Try.prog 22 := ⟨_, u22, rfl⟩
theorem ag41 : Agg Try.prog 41 2 := ⟨_, u41, rfl, by kernel_rfl⟩
theorem fn125 : Fn Try.prog 125 := ⟨_, Try.func125, by kernel_rfl, rfl⟩
theorem fn163 : Fn Try.prog 163 := ⟨_, Try.func163, by kernel_rfl, rfl⟩
theorem fn164 : Fn Try.prog 164 := ⟨_, Try.func164, by kernel_rfl, rfl⟩
theorem fn36 : Fn Try.prog 36 := ⟨_, Try.func36, by kernel_rfl, rfl⟩
theorem foll0 : Try.prog.follows .mixedOrders = true := by kernel_rfl
end Ql
open Ql
set_option maxRecDepth 10000 in
theorem isMap_c {B : World} {H0 H : HP} {L : List SA} {w : World} {ba : Nat} {qad qaf : Option Addr} {cad caf : Nat} {ad : List Int} {af : List (List Term)} {bb : Nat} {qbd qbf : Option Addr} {cbd cbf : Nat} {bd : List Int} {bf : List (List Term)} {qms : Option Addr} {cms : Nat} {ms : List (List Term)}  (pad : CellAt H ba 0 (.slice qad ad.length cad)) (paf : CellAt H ba 1 (.slice qaf af.length caf)) (had : Ints H qad ad) (haf : Forms H qaf af) (pbd : CellAt H bb 0 (.slice qbd bd.length cbd)) (pbf : CellAt H bb 1 (.slice qbf bf.length cbf)) (hbd : Ints H qbd bd) (hbf : Forms H qbf bf) (hms : Forms H qms ms) (hAa : isAlg ad af = true) (hBb : isAlg bd bf = true) (hmn : ms.length ≤ 1048576) (hml : ∀ i, i < ms.length → (fm ms i).length ≤ 1048576) (hH : Hp B H0 H L w) :
    Calls Try.prog 125 [.pointer (some ⟨ba, 0, none⟩), .pointer (some ⟨bb, 0, none⟩), .slice qms ms.length cms].toArray w fun e w' => e = .returned (.bool (decide (ms.length = ad.length) && mpsOk bd ms ad && kps bd bf ms af)) ∧ Hp B H0 H L w' := by
  refine CJ.enter Try.func125 rfl 23 rfl rfl [(0, .pointer (some ⟨ba, 0, none⟩)), (1, .pointer (some ⟨bb, 0, none⟩)), (2, .slice qms ms.length cms)] rfl hH ?_
  clear hH
  have hBo := isAlg_ok hBb hbf.wfss
  refine CJ.seq fun _ hK1 _ => ?_
  refine CJ.region ?_
  refine J.p (PR.assign rfl) rfl ?_
  refine J.nil ?_
  refine EJ.thenN (hK1 ?_)
  refine CJ.seq fun _ hK2 _ => ?_
  refine CJ.head [[], [0], [1], [2], [], [4], [5], [6], [], [3, 7, 8], [9], [10], [10], [10]] (by kernel_rfl) ?_
  refine HJ.op (fun gh => PR.move rfl) ?_
  refine HJ.op (fun gh => PR.nilCheck rfl) ?_
  refine HJ.op (fun gh => PR.fldA u41 rfl sz22 rfl) ?_
  refine HJ.op (fun gh => PR.loadH (q := some ⟨ba, 0, none⟩) (k := 0) rfl pad pl22) ?_
  refine HJ.op (fun gh => PR.move rfl) ?_
  refine HJ.op (fun gh => PR.nilCheck rfl) ?_
  refine HJ.op (fun gh => PR.fldA u41 rfl sz22 rfl) ?_
  refine HJ.op (fun gh => PR.loadH (q := some ⟨bb, 0, none⟩) (k := 0) rfl pbd pl22) ?_
  refine HJ.op (fun gh => PR.move rfl) ?_
  refine HJ.call fn163 (fun gh => rfl) (fun w X hH => isAssignment_c had hbd hms hBo.hn hBo.hd hmn hml hH) ?_
  refine HJ.op (fun gh => PR.move rfl) ?_
  refine HJ.splitB 10 rfl (fun h17 => ?_) (fun h17 => ?_)
  ·
    try have h17p := of_decide_eq_true h17
    refine HJ.gy (fun gh => PR.move rfl) rfl (fun gh => rfl) h17 ?_
    refine HJ.gy (fun gh => PR.move rfl) rfl (fun gh => rfl) h17 ?_
    refine HJ.gy (fun gh => PR.move rfl) rfl (fun gh => rfl) h17 ?_
    refine HJ.close 14 1 foll0 (by kernel_rfl) rfl rfl fun gh => ?_
    refine J.conv (us' := (7, _) :: (8, _) :: (9, _) :: (10, _) :: (11, _) :: (12, _) :: (13, _) :: (14, _) :: (15, _) :: (16, _) :: (17, _) :: (18, _) :: (19, _) :: (20, _) :: _) (L' := _) rfl rfl ?_
    refine J.gcall fn164 rfl rfl h17 rfl rfl fun w hH => (keeps_c pad paf had haf pbd pbf hbd hbf hms hAa hBb (of_decide_eq_true (Bool.and_eq_true_iff.1 h17).1) (Bool.and_eq_true_iff.1 h17).2 hH).mono ?_
    rintro _ w ⟨rfl, hH⟩
    refine ⟨_, rfl, fun a hF => J.of hF hH ?_⟩
    refine J.nil ?_
    refine EJ.still ?_
    refine JS.op (PR.pickT rfl h17 rfl) rfl ?_
    refine JS.op (PR.assign rfl) rfl ?_
    refine JS.nil ?_
    refine EJ.thenN (hK2 ?_)
    refine CJ.ret ?_
    refine EJ.ret1 rfl (Res.tmp rfl) fun w hH => ?_
    exact ⟨rb (by rw [h17]; rfl), hH⟩
  ·
    try have h17p := of_decide_eq_false h17
    refine HJ.gn rfl (fun gh => rfl) h17 ?_
    refine HJ.gn rfl (fun gh => rfl) h17 ?_
    refine HJ.gn rfl (fun gh => rfl) h17 ?_
    refine HJ.close 14 1 foll0 (by kernel_rfl) rfl rfl fun gh => ?_
    refine J.conv (us' := (7, _) :: (8, _) :: (9, _) :: (10, _) :: (11, _) :: (12, _) :: (13, _) :: (14, _) :: (15, _) :: (16, _) :: (17, _) :: (18, _) :: (19, _) :: (20, _) :: _) (L' := _) rfl rfl ?_
    refine J.gn rfl rfl rfl h17 ?_
    refine J.nil ?_
    refine EJ.still ?_
    refine JS.op (PR.pickF rfl h17 rfl) rfl ?_
    refine JS.op (PR.assign rfl) rfl ?_
    refine JS.nil ?_
    refine EJ.thenN (hK2 ?_)
    refine CJ.ret ?_
    refine EJ.ret1 rfl (Res.tmp rfl) fun w hH => ?_
    exact ⟨rb (by rw [h17]; rfl), hH⟩
set_option maxRecDepth 10000 in
theorem IsMap_c {B : World} {H0 H : HP} {L : List SA} {w : World} {qad qaf : Option Addr} {cad caf : Nat} {ad : List Int} {af : List (List Term)} {qbd qbf : Option Addr} {cbd cbf : Nat} {bd : List Int} {bf : List (List Term)} {qms : Option Addr} {cms : Nat} {ms : List (List Term)}  (had : Ints H qad ad) (haf : Forms H qaf af) (hbd : Ints H qbd bd) (hbf : Forms H qbf bf) (hms : Forms H qms ms) (hn8 : ad.length ≤ 1048576) (hn9 : af.length ≤ 1048576) (hl9 : ∀ i, i < af.length → (fm af i).length ≤ 1048576) (hbn8 : bd.length ≤ 1048576) (hbn9 : bf.length ≤ 1048576) (hbl9 : ∀ i, i < bf.length → (fm bf i).length ≤ 1048576) (hmn9 : ms.length ≤ 1048576) (hml9 : ∀ i, i < ms.length → (fm ms i).length ≤ 1048576) (hH : Hp B H0 H L w) :
    Calls Try.prog 67 [.agg [.slice qad ad.length cad, .slice qaf af.length caf].toArray, .agg [.slice qbd bd.length cbd, .slice qbf bf.length cbf].toArray, .slice qms ms.length cms].toArray w fun e w' => e = .returned (.bool (isMp ad af bd bf ms)) ∧ Hp B H0 H L w' := by
  refine CJ.enter Try.func67 rfl 17 rfl rfl [(0, .agg [.slice qad ad.length cad, .slice qaf af.length caf].toArray), (1, .agg [.slice qbd bd.length cbd, .slice qbf bf.length cbf].toArray), (2, .slice qms ms.length cms)] rfl hH ?_
  have hw0 := hH.old
  have hw1 := hH.le
  clear hH
  refine CJ.seq fun _ hK1 _ => ?_
  refine CJ.region ?_
  refine J.box rfl rfl rfl fun g3 => ?_
  refine J.box rfl rfl rfl fun g4 => ?_
  refine J.p (PR.assign rfl) rfl ?_
  refine J.nil ?_
  refine EJ.thenN (hK1 ?_)
  refine CJ.seq fun _ hK2 _ => ?_
  refine CJ.region ?_
  refine J.freezeRow (.s .z) fun H7 hle7 hc7 => ?_
  replace had := had.le hle7
  replace haf := haf.le hle7
  replace hbd := hbd.le hle7
  replace hbf := hbf.le hle7
  replace hms := hms.le hle7
  refine J.freezeRow .z fun H8 hle8 hc8 => ?_
  replace had := had.le hle8
  replace haf := haf.le hle8
  replace hbd := hbd.le hle8
  replace hbf := hbf.le hle8
  replace hms := hms.le hle8
  have hle78 := hle7.trans hle8
  have pad : CellAt H8 g3 0 (.slice qad ad.length cad) := CellAt.le (hc7 0 _ rfl) hle8
  have paf : CellAt H8 g3 1 (.slice qaf af.length caf) := CellAt.le (hc7 1 _ rfl) hle8
  have pbd : CellAt H8 g4 0 (.slice qbd bd.length cbd) := hc8 0 _ rfl
  have pbf : CellAt H8 g4 1 (.slice qbf bf.length cbf) := hc8 1 _ rfl
  refine J.p (PR.loadHb rfl pad paf ag41) rfl ?_
  refine J.call fn36 rfl rfl fun w hH => (IsAlgebra_c had haf (by omega) (by omega) hl9 hH).mono ?_
  rintro _ w ⟨rfl, hH⟩
  refine ⟨_, rfl, fun a hF => J.of hF hH ?_⟩
  refine J.p (PR.move rfl) rfl ?_
  refine J.splitB (jd := 9) rfl (fun h9 => ?_) (fun h9 => ?_)
  ·
    try have h9p := of_decide_eq_true h9
    refine J.gy (PR.loadHb rfl pbd pbf ag41) rfl rfl rfl h9 ?_
    refine J.gcall fn36 rfl rfl h9 rfl rfl fun w hH => (IsAlgebra_c hbd hbf (by omega) (by omega) hbl9 hH).mono ?_
    rintro _ w ⟨rfl, hH⟩
    refine ⟨_, rfl, fun a hF => J.of hF hH ?_⟩
    refine J.p (PR.pickT rfl h9 rfl) rfl ?_
    refine J.p (PR.move rfl) rfl ?_
    refine J.splitB (jd := 13) rfl (fun h13 => ?_) (fun h13 => ?_)
    ·
      try have h13p := of_decide_eq_true h13
      refine J.gy (PR.move rfl) rfl rfl rfl h13 ?_
      refine J.gcall fn125 rfl rfl h13 rfl rfl fun w hH => (isMap_c pad paf had haf pbd pbf hbd hbf hms (by simpa using h9) (by simpa using h13) (by omega) hml9 hH).mono ?_
      rintro _ w ⟨rfl, hH⟩
      refine ⟨_, rfl, fun a hF => J.of hF hH ?_⟩
      refine J.p (PR.pickT rfl h13 rfl) rfl ?_
      refine J.p (PR.assign rfl) rfl ?_
      refine J.nil ?_
      refine EJ.thenN (hK2 ?_)
      refine CJ.ret ?_
      refine EJ.ret1 rfl (Res.tmp rfl) fun w hH => ?_
      exact ⟨rb (by unfold isMp; rw [h9, h13]; rfl), hH.weaken hle78 hw0 hw1⟩
    ·
      try have h13p := of_decide_eq_false h13
      refine J.gn rfl rfl rfl h13 ?_
      refine J.gn rfl rfl rfl h13 ?_
      refine J.p (PR.pickF rfl h13 rfl) rfl ?_
      refine J.p (PR.assign rfl) rfl ?_
      refine J.nil ?_
      refine EJ.thenN (hK2 ?_)
      refine CJ.ret ?_
      refine EJ.ret1 rfl (Res.tmp rfl) fun w hH => ?_
      exact ⟨rb (by unfold isMp; rw [h9, h13]; rfl), hH.weaken hle78 hw0 hw1⟩
  ·
    try have h9p := of_decide_eq_false h9
    refine J.gn rfl rfl rfl h9 ?_
    refine J.gn rfl rfl rfl h9 ?_
    refine J.p (PR.pickF rfl h9 rfl) rfl ?_
    refine J.p (PR.move rfl) rfl ?_
    refine J.gn rfl rfl rfl rfl ?_
    refine J.gn rfl rfl rfl rfl ?_
    refine J.p (PR.pickF rfl rfl rfl) rfl ?_
    refine J.p (PR.assign rfl) rfl ?_
    refine J.nil ?_
    refine EJ.thenN (hK2 ?_)
    refine CJ.ret ?_
    refine EJ.ret1 rfl (Res.tmp rfl) fun w hH => ?_
    exact ⟨rb (by unfold isMp; rw [h9]; rfl), hH.weaken hle78 hw0 hw1⟩
end Go.Proofs.Ytpojpokldncglaa.G
namespace Go.Proofs.Ytpojpokldncglaa.G
open Go Go.RowKit
namespace Lt
theorem u4 : Try.prog.underlying 4 = some (TypeDesc.bool) := by kernel_rfl
theorem u41 : Try.prog.underlying 41 = some (TypeDesc.struct #[{ name := "Degrees", type := 22, offset := 0, embedded := false, tag := "", pkgPath := "", byteOffset := 0 }, { name := "Images", type := 39, offset := 1, embedded := false, tag := "", pkgPath := "", byteOffset := 24 }]) := by kernel_rfl
theorem u49 : Try.prog.underlying 49 = some (TypeDesc.struct #[{ name := "Degrees", type := 22, offset := 0, embedded := false, tag := "", pkgPath := "", byteOffset := 0 }, { name := "Images", type := 47, offset := 1, embedded := false, tag := "", pkgPath := "", byteOffset := 24 }]) := by kernel_rfl
theorem sz41 : Size Try.prog 41 2 := by unfold Size; kernel_rfl
theorem ze41 : Zero Try.prog 41 [.slice none 0 0, .slice none 0 0] := by unfold Zero; kernel_rfl
theorem ag41 : Agg Try.prog 41 2 := ⟨_, u41, rfl, by kernel_rfl⟩
theorem ag49 : Agg Try.prog 49 2 := ⟨_, u49, rfl, by kernel_rfl⟩
theorem fn30 : Fn Try.prog 30 := ⟨_, Try.func30, by kernel_rfl, rfl⟩
theorem fn33 : Fn Try.prog 33 := ⟨_, Try.func33, by kernel_rfl, rfl⟩
theorem fn35 : Fn Try.prog 35 := ⟨_, Try.func35, by kernel_rfl, rfl⟩
theorem fn55 : Fn Try.prog 55 := ⟨_, Try.func55, by kernel_rfl, rfl⟩
theorem fn64 : Fn Try.prog 64 := ⟨_, Try.func64, by kernel_rfl, rfl⟩
theorem fn65 : Fn Try.prog 65 := ⟨_, Try.func65, by kernel_rfl, rfl⟩
theorem fn66 : Fn Try.prog 66 := ⟨_, Try.func66, by kernel_rfl, rfl⟩
theorem fn67 : Fn Try.prog 67 := ⟨_, Try.func67, by kernel_rfl, rfl⟩
theorem foll0 : Try.prog.follows .mixedOrders = true := by kernel_rfl
end Lt
open Lt
set_option maxHeartbeats 8000000 in
set_option maxRecDepth 10000 in
theorem lawIsMap_c {B : World} {H0 H : HP} {L : List SA} {w : World} {qad qaf : Option Addr} {cad caf : Nat} {ad : List Int} {af : List (List Term)} {qbd qbf : Option Addr} {cbd cbf : Nat} {bd : List Int} {bf : List (List Term)} {qms : Option Addr} {cms : Nat} {ms : List (List Term)}  (had : Ints H qad ad) (haf : Forms H qaf af) (hbd : Ints H qbd bd) (hbf : Forms H qbf bf) (hms : Forms H qms ms) (hn : ad.length ≤ 9223372036854775807 ∧ af.length ≤ 9223372036854775807) (hl : ∀ i, i < af.length → (fm af i).length ≤ 9223372036854775807) (bn : bd.length ≤ 9223372036854775807 ∧ bf.length ≤ 9223372036854775807) (bl : ∀ i, i < bf.length → (fm bf i).length ≤ 9223372036854775807) (mn : ms.length ≤ 9223372036854775807) (ml : ∀ i, i < ms.length → (fm ms i).length ≤ 9223372036854775807) (hH : Hp B H0 H L w) :
    Calls Try.prog 16 [.agg [.slice qad ad.length cad, .slice qaf af.length caf].toArray, .agg [.slice qbd bd.length cbd, .slice qbf bf.length cbf].toArray, .slice qms ms.length cms].toArray w fun e w' => e = .returned (.bool true) ∧ Below B.heap.size B w' := by
  refine CJ.enter Try.func16 rfl 63 rfl rfl [(0, .agg [.slice qad ad.length cad, .slice qaf af.length caf].toArray), (1, .agg [.slice qbd bd.length cbd, .slice qbf bf.length cbf].toArray), (2, .slice qms ms.length cms)] rfl hH ?_
  clear hH
  refine CJ.seq fun _ hK1 _ => ?_
  refine CJ.region ?_
  refine J.box rfl rfl rfl fun g3 => ?_
  refine J.box rfl rfl rfl fun g4 => ?_
  refine J.p (PR.assign rfl) rfl ?_
  refine J.nil ?_
  refine EJ.thenN (hK1 ?_)
  refine CJ.seq fun _ hK2 _ => ?_
  refine CJ.region ?_
  refine J.p (PR.assign rfl) rfl ?_
  refine J.nil ?_
  refine EJ.thenN (hK2 ?_)
  refine CJ.seq fun _ hK3 _ => ?_
  refine CJ.region ?_
  refine J.p (PR.loadAll rfl (.s .z) (by simpa [*] using ag49)) rfl ?_
  refine J.p (PR.move rfl) rfl ?_
  refine J.call fn33 rfl rfl fun w hH => (szAlgebra_c had haf (by omega) hl hH).mono ?_
  rintro _ w ⟨rfl, hH⟩
  refine ⟨_, rfl, fun a hF => J.of hF hH ?_⟩
  refine J.p (PR.assign rfl) rfl ?_
  refine J.nil ?_
  refine EJ.thenN (hK3 ?_)
  refine CJ.seq fun _ hK4 _ => ?_
  refine CJ.seq fun _ hK5 _ => ?_
  refine CJ.region ?_
  refine J.p (PR.move rfl) rfl ?_
  refine J.p (PR.lss rfl rfl) rfl ?_
  refine J.nil ?_
  refine EJ.thenN (hK5 ?_)
  refine CJ.condD rfl (fun h11 => ?_) (fun h11 => ?_)
  ·
    refine CJ.seq fun _ hK6 _ => ?_
    refine CJ.region ?_
    refine J.p (PR.assign rfl) rfl ?_
    refine J.nil ?_
    refine EJ.thenN (hK6 ?_)
    refine CJ.ret ?_
    refine EJ.thenR ?_
    refine EJ.ret1 rfl (Res.tmp rfl) fun w hH => ?_
    replace hH := hH.tail
    replace hH := hH.tail
    first | exact ⟨rfl, hH.below⟩ | exact absurd rfl h11p | exact absurd rfl h11 | (exfalso; omega) | (simp at h11; done)
  ·
    have hsz : ad.length + af.length + tot af ≤ 1048576 := by unfold szv at h11; split at h11 <;> omega
    have hl6 : ∀ i, i < af.length → (fm af i).length ≤ 1048576 := fun i hi => by have := tot_fm hi; omega
    refine CJ.skip ?_
    refine EJ.thenN (hK4 ?_)
    refine CJ.seq fun _ hK7 _ => ?_
    refine CJ.region ?_
    refine J.p (PR.loadAll rfl At.z (by simpa [*] using ag49)) rfl ?_
    refine J.p (PR.move rfl) rfl ?_
    refine J.call fn33 rfl rfl fun w hH => (szAlgebra_c hbd hbf (by unfold szv at h11 ⊢; split at h11 <;> split <;> omega) bl hH).mono ?_
    rintro _ w ⟨rfl, hH⟩
    refine ⟨_, rfl, fun a hF => J.of hF hH ?_⟩
    refine J.p (PR.assign rfl) rfl ?_
    refine J.nil ?_
    refine EJ.thenN (hK7 ?_)
    refine CJ.seq fun _ hK8 _ => ?_
    refine CJ.seq fun _ hK9 _ => ?_
    refine CJ.region ?_
    refine J.p (PR.move rfl) rfl ?_
    refine J.p (PR.lss rfl rfl) rfl ?_
    refine J.nil ?_
    refine EJ.thenN (hK9 ?_)
    refine CJ.condD rfl (fun h21 => ?_) (fun h21 => ?_)
    ·
      refine CJ.seq fun _ hK10 _ => ?_
      refine CJ.region ?_
      refine J.p (PR.assign rfl) rfl ?_
      refine J.nil ?_
      refine EJ.thenN (hK10 ?_)
      refine CJ.ret ?_
      refine EJ.thenR ?_
      refine EJ.ret1 rfl (Res.tmp rfl) fun w hH => ?_
      replace hH := hH.tail
      replace hH := hH.tail
      first | exact ⟨rfl, hH.below⟩ | exact absurd rfl h21p | exact absurd rfl h21 | (exfalso; omega) | (simp at h21; done)
    ·
      have hszb : bd.length + bf.length + tot bf ≤ 1048576 := by unfold szv at h21; split at h21 <;> (try split at h21) <;> omega
      have bl6 : ∀ i, i < bf.length → (fm bf i).length ≤ 1048576 := fun i hi => by have := tot_fm hi; omega
      refine CJ.skip ?_
      refine EJ.thenN (hK8 ?_)
      refine CJ.seq fun _ hK11 _ => ?_
      refine CJ.region ?_
      refine J.p (PR.move rfl) rfl ?_
      refine J.p (PR.move rfl) rfl ?_
      refine J.call fn64 rfl rfl fun w hH => (szFormS_c hms (by unfold szv at h21 h11 ⊢; split at h21 <;> split <;> (try split at h21) <;> (try split) <;> omega) ml hH).mono ?_
      rintro _ w ⟨rfl, hH⟩
      refine ⟨_, rfl, fun a hF => J.of hF hH ?_⟩
      refine J.p (PR.assign rfl) rfl ?_
      refine J.nil ?_
      refine EJ.thenN (hK11 ?_)
      refine CJ.seq fun _ hK12 _ => ?_
      refine CJ.seq fun _ hK13 _ => ?_
      refine CJ.region ?_
      refine J.p (PR.move rfl) rfl ?_
      refine J.p (PR.lss rfl rfl) rfl ?_
      refine J.nil ?_
      refine EJ.thenN (hK13 ?_)
      refine CJ.condD rfl (fun h31 => ?_) (fun h31 => ?_)
      ·
        refine CJ.seq fun _ hK14 _ => ?_
        refine CJ.region ?_
        refine J.p (PR.assign rfl) rfl ?_
        refine J.nil ?_
        refine EJ.thenN (hK14 ?_)
        refine CJ.ret ?_
        refine EJ.thenR ?_
        refine EJ.ret1 rfl (Res.tmp rfl) fun w hH => ?_
        replace hH := hH.tail
        replace hH := hH.tail
        first | exact ⟨rfl, hH.below⟩ | exact absurd rfl h31p | exact absurd rfl h31 | (exfalso; omega) | (simp at h31; done)
      ·
        have hszm : ms.length + tot ms ≤ 1048576 := by unfold szv at h31; split at h31 <;> (try split at h31) <;> (try split at h31) <;> omega
        have ml6 : ∀ i, i < ms.length → (fm ms i).length ≤ 1048576 := fun i hi => by have := tot_fm hi; omega
        refine CJ.skip ?_
        refine EJ.thenN (hK12 ?_)
        refine CJ.seq fun _ hK15 _ => ?_
        refine CJ.openR (Rs := [_, _]) 8 [[], [0], [], [0, 1, 2], [], [0, 1, 2, 3, 4], [0, 1, 2, 3, 4, 5], [0, 1, 2, 3, 4, 5, 6]] [[9], [], [8], [], [], [], [1, 3, 5], []] [[], [], [], [], [], [], [], []] rfl rfl (by kernel_rfl) ?_
        apply GJ.st0 1 rfl
        iterate 3 focus (intros; (conv => lhs; simp only [slotsZ, zlAt, vs0, resL, at2, eq_self, Nat.reduceEqDiff, reduceIte, Nat.reduceSub, Nat.reduceAdd, List.cons_append, List.nil_append]); all_goals rfl)
        ·
          intro gh X K zq zc zq2 zc2 zb zv hK
          refine J.p (PR.loadAll rfl At.z (by simpa [*] using ag49)) rfl ?_
          refine J.nilK ?_
          exact hK zq zc zq2 zc2 zb zv
        ·
          intro gh gh' h
          rfl
        apply GJ.st2 2 rfl
        iterate 3 focus (intros; (conv => lhs; simp only [slotsZ, zlAt, vs0, resL, at2, eq_self, Nat.reduceEqDiff, reduceIte, Nat.reduceSub, Nat.reduceAdd, List.cons_append, List.nil_append]); all_goals rfl)
        ·
          intro gh X K zq zc zq2 zc2 zb zv hK
          refine J.call fn35 rfl rfl fun w hH => (toAlgebra_c had haf (by omega) hl6 hH).mono ?_
          rintro _ w ⟨qdo29, cdo29, qfo29, cfo29, vso29, rfl, hH⟩
          refine ⟨_, rfl, fun a hF => J.of hF hH ?_⟩
          refine J.nilK ?_
          exact hK qdo29 cdo29 qfo29 cfo29 zb vso29
        ·
          intro gh gh' h
          refine ⟨?_, ?_, ?_⟩ <;> rfl
        apply GJ.st0 3 rfl
        iterate 3 focus (intros; (conv => lhs; simp only [slotsZ, zlAt, vs0, resL, at2, eq_self, Nat.reduceEqDiff, reduceIte, Nat.reduceSub, Nat.reduceAdd, List.cons_append, List.nil_append]); all_goals rfl)
        ·
          intro gh X K zq zc zq2 zc2 zb zv hK
          refine J.p (PR.loadAll rfl At.z (by simpa [*] using ag49)) rfl ?_
          refine J.nilK ?_
          exact hK zq zc zq2 zc2 zb zv
        ·
          intro gh gh' h
          rfl
        apply GJ.st2 4 rfl
        iterate 3 focus (intros; (conv => lhs; simp only [slotsZ, zlAt, vs0, resL, at2, eq_self, Nat.reduceEqDiff, reduceIte, Nat.reduceSub, Nat.reduceAdd, List.cons_append, List.nil_append]); all_goals rfl)
        ·
          intro gh X K zq zc zq2 zc2 zb zv hK
          refine J.call fn35 rfl rfl fun w hH => (toAlgebra_c hbd hbf (by omega) bl6 hH).mono ?_
          rintro _ w ⟨qdo31, cdo31, qfo31, cfo31, vso31, rfl, hH⟩
          refine ⟨_, rfl, fun a hF => J.of hF hH ?_⟩
          refine J.nilK ?_
          exact hK qdo31 cdo31 qfo31 cfo31 zb vso31
        ·
          intro gh gh' h
          refine ⟨?_, ?_, ?_⟩ <;> (first | simp only [h 1 rfl] | rfl)
        apply GJ.st0 5 rfl
        iterate 3 focus (intros; (conv => lhs; simp only [slotsZ, zlAt, vs0, resL, at2, eq_self, Nat.reduceEqDiff, reduceIte, Nat.reduceSub, Nat.reduceAdd, List.cons_append, List.nil_append]); all_goals rfl)
        ·
          intro gh X K zq zc zq2 zc2 zb zv hK
          refine J.p (PR.move rfl) rfl ?_
          refine J.nilK ?_
          exact hK zq zc zq2 zc2 zb zv
        ·
          intro gh gh' h
          rfl
        apply GJ.st1 6 rfl
        iterate 3 focus (intros; (conv => lhs; simp only [slotsZ, zlAt, vs0, resL, at2, eq_self, Nat.reduceEqDiff, reduceIte, Nat.reduceSub, Nat.reduceAdd, List.cons_append, List.nil_append]); all_goals rfl)
        ·
          intro gh X K zq zc zq2 zc2 zb zv hK
          refine J.call fn66 rfl rfl fun w hH => (toFormS_c hms (by omega) ml6 hH).mono ?_
          rintro _ w ⟨qo33, co33, vso33, rfl, hH⟩
          refine ⟨_, rfl, fun a hF => J.of hF hH ?_⟩
          refine J.nilK ?_
          exact hK qo33 co33 zq2 zc2 zb vso33
        ·
          intro gh gh' h
          refine ⟨?_, ?_⟩ <;> (first | simp only [h 1 rfl, h 3 rfl] | rfl)
        apply GJ.st0 7 rfl
        iterate 3 focus (intros; (conv => lhs; simp only [slotsZ, zlAt, vs0, resL, at2, eq_self, Nat.reduceEqDiff, reduceIte, Nat.reduceSub, Nat.reduceAdd, List.cons_append, List.nil_append]); all_goals rfl)
        ·
          intro gh X K zq zc zq2 zc2 zb zv hK
          refine J.call fn65 rfl rfl fun w hH => hH.lend .z fun Hl1 hle1 hA1 hB1 hH => hH.lend .z fun Hl2 hle2 hA2 hB2 hH => hH.lend .z fun Hl3 hle3 hA3 hB3 hH => hH.lend .z fun Hl4 hle4 hA4 hB4 hH => hH.lend .z fun Hl5 hle5 hA5 hB5 hH => (sIsMap_c (((((own_ints hA1).le hle2).le hle3).le hle4).le hle5) ((((own_forms haf.wfss hA2).le hle3).le hle4).le hle5) (((own_ints hA3).le hle4).le hle5) ((own_forms hbf.wfss hA4).le hle5) (own_forms hms.wfss hA5) (by omega) (by omega) hl6 (by omega) (by omega) bl6 (by omega) ml6 hH).mono ?_
          rintro _ w ⟨rfl, hH⟩
          replace hH := hB5 _ _ hH
          replace hH := hB4 _ _ hH
          replace hH := hB3 _ _ hH
          replace hH := hB2 _ _ hH
          replace hH := hB1 _ _ hH
          refine ⟨_, rfl, fun a hF => J.of hF hH ?_⟩
          refine J.nilK ?_
          exact hK zq zc zq2 zc2 zb zv
        ·
          intro gh gh' h
          first | simp only [h 1 rfl, h 3 rfl, h 5 rfl] | rfl
        apply GJ.st0 8 rfl
        iterate 3 focus (intros; (conv => lhs; simp only [slotsZ, zlAt, vs0, resL, at2, eq_self, Nat.reduceEqDiff, reduceIte, Nat.reduceSub, Nat.reduceAdd, List.cons_append, List.nil_append]); all_goals rfl)
        ·
          intro gh X K zq zc zq2 zc2 zb zv hK
          refine J.p (PR.assign rfl) rfl ?_
          refine J.nilK ?_
          exact hK zq zc zq2 zc2 zb zv
        ·
          intro gh gh' h
          first | simp only [h 1 rfl, h 3 rfl, h 5 rfl] | rfl
        apply GJ.close [0, 1, 2, 3, 4, 5, 6, 7] [0, 1, 2, 3, 4, 5, 6, 7, 8, 9] foll0 rfl rfl rfl (by rfl)
        iterate 2 focus (intros; (conv => lhs; simp only [slotsZ, zlAt, vs0, resL, at2, eq_self, Nat.reduceEqDiff, reduceIte, Nat.reduceSub, Nat.reduceAdd, List.cons_append, List.nil_append]); all_goals rfl)
        intro gh
        generalize (gh 1).c = cdo29
        generalize (gh 1).c2 = cfo29
        generalize (gh 1).q = qdo29
        generalize (gh 1).q2 = qfo29
        generalize (gh 1).vs = vso29
        generalize (gh 3).c = cdo31
        generalize (gh 3).c2 = cfo31
        generalize (gh 3).q = qdo31
        generalize (gh 3).q2 = qfo31
        generalize (gh 3).vs = vso31
        generalize (gh 5).c = co33
        generalize (gh 5).q = qo33
        generalize (gh 5).vs = vso33
        clear gh
        refine EJ.thenN (hK15 ?_)
        refine CJ.seq fun _ hK16 _ => ?_
        refine CJ.region ?_
        refine J.p (PR.loadAll rfl (.s (.s (.s (.s (.s (.s .z)))))) (by simpa [*] using ag49)) rfl ?_
        refine J.call fn35 rfl rfl fun w hH => (toAlgebra_c had haf (by omega) hl6 hH).mono ?_
        rintro _ w ⟨qdo36, cdo36, qfo36, cfo36, vso36, rfl, hH⟩
        refine ⟨_, rfl, fun a hF => J.of hF hH ?_⟩
        refine J.alloc ze41 rfl fun g9 => ?_
        refine J.storeAll rfl rfl (by first | exact bytesC_one _ | exact intsC_one _ | exact Term.c_one _ | simp [Value.oneCell']) (by simpa [*] using sz41) (by simp [*]) At.z ?_
        refine J.nil ?_
        refine EJ.thenN (hK16 ?_)
        refine CJ.seq fun _ hK17 _ => ?_
        refine CJ.region ?_
        refine J.p (PR.loadAll rfl (.s (.s (.s (.s (.s (.s (.s (.s .z)))))))) (by simpa [*] using ag49)) rfl ?_
        refine J.call fn35 rfl rfl fun w hH => (toAlgebra_c hbd hbf (by omega) bl6 hH).mono ?_
        rintro _ w ⟨qdo38, cdo38, qfo38, cfo38, vso38, rfl, hH⟩
        refine ⟨_, rfl, fun a hF => J.of hF hH ?_⟩
        refine J.alloc ze41 rfl fun g10 => ?_
        refine J.storeAll rfl rfl (by first | exact bytesC_one _ | exact intsC_one _ | exact Term.c_one _ | simp [Value.oneCell']) (by simpa [*] using sz41) (by simp [*]) At.z ?_
        refine J.nil ?_
        refine EJ.thenN (hK17 ?_)
        refine CJ.seq fun _ hK18 _ => ?_
        refine CJ.region ?_
        refine J.p (PR.move rfl) rfl ?_
        refine J.call fn66 rfl rfl fun w hH => (toFormS_c hms (by omega) ml6 hH).mono ?_
        rintro _ w ⟨qo40, co40, vso40, rfl, hH⟩
        refine ⟨_, rfl, fun a hF => J.of hF hH ?_⟩
        refine J.p (PR.assign rfl) rfl ?_
        refine J.nil ?_
        refine EJ.thenN (hK18 ?_)
        refine CJ.seq fun _ hK19 _ => ?_
        refine CJ.region ?_
        refine J.p (PR.loadAll rfl (.s (.s (.s (.s .z)))) (by simpa [*] using ag41)) rfl ?_
        refine J.p (PR.loadAll rfl (.s .z) (by simpa [*] using ag41)) rfl ?_
        refine J.p (PR.move rfl) rfl ?_
        refine J.call fn67 rfl rfl fun w hH => hH.lend (.s (.s (.s (.s (.s .z))))) fun Hl1 hle1 hA1 hB1 hH => hH.lend (.s (.s (.s (.s (.s .z))))) fun Hl2 hle2 hA2 hB2 hH => hH.lend (.s (.s .z)) fun Hl3 hle3 hA3 hB3 hH => hH.lend (.s (.s .z)) fun Hl4 hle4 hA4 hB4 hH => hH.lend .z fun Hl5 hle5 hA5 hB5 hH => (IsMap_c (((((own_ints hA1).le hle2).le hle3).le hle4).le hle5) ((((own_forms haf.wfss hA2).le hle3).le hle4).le hle5) (((own_ints hA3).le hle4).le hle5) ((own_forms hbf.wfss hA4).le hle5) (own_forms hms.wfss hA5) (by omega) (by omega) hl6 (by omega) (by omega) bl6 (by omega) ml6 hH).mono ?_
        rintro _ w ⟨rfl, hH⟩
        replace hH := hB5 _ _ hH
        replace hH := hB4 _ _ hH
        replace hH := hB3 _ _ hH
        replace hH := hB2 _ _ hH
        replace hH := hB1 _ _ hH
        refine ⟨_, rfl, fun a hF => J.of hF hH ?_⟩
        refine J.p (PR.assign rfl) rfl ?_
        refine J.nil ?_
        refine EJ.thenN (hK19 ?_)
        refine CJ.seq fun _ hK20 _ => ?_
        refine CJ.seq fun _ hK21 _ => ?_
        refine CJ.region ?_
        refine J.p (PR.move rfl) rfl ?_
        refine J.p (PR.move rfl) rfl ?_
        refine J.p (PR.neqB u4 rfl rfl) rfl ?_
        refine J.nil ?_
        refine EJ.thenN (hK21 ?_)
        refine CJ.condD rfl (fun hc47 => ?_) (fun hc47 => ?_)
        ·
          refine CJ.seq fun _ hK22 _ => ?_
          refine CJ.region ?_
          refine J.p (PR.assign rfl) rfl ?_
          refine J.nil ?_
          refine EJ.thenN (hK22 ?_)
          refine CJ.ret ?_
          refine EJ.thenR ?_
          refine EJ.ret1 rfl (Res.tmp rfl) fun w hH => ?_
          replace hH := hH.tail
          replace hH := hH.tail
          replace hH := hH.tail
          replace hH := hH.tail
          replace hH := hH.tail
          replace hH := hH.tail
          replace hH := hH.tail
          replace hH := hH.tail
          replace hH := hH.tail
          replace hH := hH.tail
          replace hH := hH.tail
          replace hH := hH.tail
          replace hH := hH.tail
          replace hH := hH.tail
          first | exact ⟨rfl, hH.below⟩ | exact absurd rfl hc47p | exact absurd rfl hc47 | (exfalso; omega) | (simp at hc47; done)
        ·
          refine CJ.skip ?_
          refine EJ.thenN (hK20 ?_)
          refine CJ.seq fun _ hK23 _ => ?_
          refine CJ.seq fun _ hK24 _ => ?_
          refine CJ.openR (Rs := [_, _, _, _, _, _, _, _, _, _, _, _, _, _]) 5 [[], [], [1], [0, 1, 2], [0, 1, 2, 3]] [[11], [18], [], [2, 5, 6], []] [[], [], [], [], []] rfl rfl (by kernel_rfl) ?_
          apply GJ.st0 1 rfl
          iterate 3 focus (intros; (conv => lhs; simp only [slotsZ, zlAt, vs0, resL, at2, eq_self, Nat.reduceEqDiff, reduceIte, Nat.reduceSub, Nat.reduceAdd, List.cons_append, List.nil_append]); all_goals rfl)
          ·
            intro gh X K zq zc zq2 zc2 zb zv hK
            refine J.p (PR.loadAll rfl At.z (by simpa [*] using ag41)) rfl ?_
            refine J.nilK ?_
            exact hK zq zc zq2 zc2 zb zv
          ·
            intro gh gh' h
            rfl
          apply GJ.st0 2 rfl
          iterate 3 focus (intros; (conv => lhs; simp only [slotsZ, zlAt, vs0, resL, at2, eq_self, Nat.reduceEqDiff, reduceIte, Nat.reduceSub, Nat.reduceAdd, List.cons_append, List.nil_append]); all_goals rfl)
          ·
            intro gh X K zq zc zq2 zc2 zb zv hK
            refine J.p (PR.loadAll rfl At.z (by simpa [*] using ag49)) rfl ?_
            refine J.nilK ?_
            exact hK zq zc zq2 zc2 zb zv
          ·
            intro gh gh' h
            rfl
          apply GJ.st2 3 rfl
          iterate 3 focus (intros; (conv => lhs; simp only [slotsZ, zlAt, vs0, resL, at2, eq_self, Nat.reduceEqDiff, reduceIte, Nat.reduceSub, Nat.reduceAdd, List.cons_append, List.nil_append]); all_goals rfl)
          ·
            intro gh X K zq zc zq2 zc2 zb zv hK
            refine J.call fn35 rfl rfl fun w hH => (toAlgebra_c had haf (by omega) hl6 hH).mono ?_
            rintro _ w ⟨qdo50, cdo50, qfo50, cfo50, vso50, rfl, hH⟩
            refine ⟨_, rfl, fun a hF => J.of hF hH ?_⟩
            refine J.nilK ?_
            exact hK qdo50 cdo50 qfo50 cfo50 zb vso50
          ·
            intro gh gh' h
            refine ⟨?_, ?_, ?_⟩ <;> rfl
          apply GJ.st0 4 rfl
          iterate 3 focus (intros; (conv => lhs; simp only [slotsZ, zlAt, vs0, resL, at2, eq_self, Nat.reduceEqDiff, reduceIte, Nat.reduceSub, Nat.reduceAdd, List.cons_append, List.nil_append]); all_goals rfl)
          ·
            intro gh X K zq zc zq2 zc2 zb zv hK
            refine J.call fn30 rfl rfl fun w hH => hH.lend (.s (.s .z)) fun Hl1 hle1 hA1 hB1 hH => hH.lend (.s (.s .z)) fun Hl2 hle2 hA2 hB2 hH => hH.lend .z fun Hl3 hle3 hA3 hB3 hH => hH.lend .z fun Hl4 hle4 hA4 hB4 hH => (eqAlgebra_c ((((own_ints hA1).le hle2).le hle3).le hle4) (((own_forms haf.wfss hA2).le hle3).le hle4) ((own_ints hA3).le hle4) (own_forms haf.wfss hA4) (by omega) (by omega) hl hH).mono ?_
            rintro _ w ⟨rfl, hH⟩
            replace hH := hB4 _ _ hH
            replace hH := hB3 _ _ hH
            replace hH := hB2 _ _ hH
            replace hH := hB1 _ _ hH
            refine ⟨_, rfl, fun a hF => J.of hF hH ?_⟩
            refine EJ.front (.s .z) ?_
            refine EJ.front (.s .z) ?_
            refine EJ.front (.s (.s (.s .z))) ?_
            refine EJ.front (.s (.s (.s .z))) ?_
            refine J.nilK ?_
            exact hK zq zc zq2 zc2 zb zv
          ·
            intro gh gh' h
            first | simp only [h 2 rfl] | rfl
          apply GJ.st0 5 rfl
          iterate 3 focus (intros; (conv => lhs; simp only [slotsZ, zlAt, vs0, resL, at2, eq_self, Nat.reduceEqDiff, reduceIte, Nat.reduceSub, Nat.reduceAdd, List.cons_append, List.nil_append]); all_goals rfl)
          ·
            intro gh X K zq zc zq2 zc2 zb zv hK
            refine J.p (PR.not rfl) rfl ?_
            refine J.nilK ?_
            exact hK zq zc zq2 zc2 zb zv
          ·
            intro gh gh' h
            first | simp only [h 2 rfl] | rfl
          apply GJ.close [0, 1, 2, 3, 4] [0, 1, 2, 3, 4, 5, 6, 7, 8, 9, 10, 11, 12, 13, 14, 15, 16, 17, 18] foll0 rfl rfl rfl (by rfl)
          iterate 2 focus (intros; (conv => lhs; simp only [slotsZ, zlAt, vs0, resL, at2, eq_self, Nat.reduceEqDiff, reduceIte, Nat.reduceSub, Nat.reduceAdd, List.cons_append, List.nil_append]); all_goals rfl)
          intro gh
          generalize (gh 2).c = cdo50
          generalize (gh 2).c2 = cfo50
          generalize (gh 2).q = qdo50
          generalize (gh 2).q2 = qfo50
          generalize (gh 2).vs = vso50
          clear gh
          refine EJ.thenN (hK24 ?_)
          refine CJ.cond rfl (fun hc52 => ?_) (fun hc52 => ?_)
          ·
            refine CJ.seq fun _ hK25 _ => ?_
            refine CJ.region ?_
            refine J.p (PR.assign rfl) rfl ?_
            refine J.nil ?_
            refine EJ.thenN (hK25 ?_)
            refine CJ.ret ?_
            refine EJ.thenR ?_
            refine EJ.ret1 rfl (Res.tmp rfl) fun w hH => ?_
            replace hH := hH.tail
            replace hH := hH.tail
            replace hH := hH.tail
            replace hH := hH.tail
            replace hH := hH.tail
            replace hH := hH.tail
            replace hH := hH.tail
            replace hH := hH.tail
            replace hH := hH.tail
            replace hH := hH.tail
            replace hH := hH.tail
            replace hH := hH.tail
            replace hH := hH.tail
            replace hH := hH.tail
            replace hH := hH.tail
            replace hH := hH.tail
            first | exact ⟨rfl, hH.below⟩ | exact absurd rfl hc52p | exact absurd rfl hc52 | (exfalso; omega) | (simp at hc52; done)
          ·
            refine CJ.skip ?_
            refine EJ.thenN (hK23 ?_)
            refine CJ.seq fun _ hK26 _ => ?_
            refine CJ.seq fun _ hK27 _ => ?_
            refine CJ.openR (Rs := [_, _, _, _, _, _, _, _, _, _, _, _, _, _, _, _]) 5 [[], [], [1], [0, 1, 2], [0, 1, 2, 3]] [[12], [19], [], [2, 9, 10], []] [[], [], [], [], []] rfl rfl (by kernel_rfl) ?_
            apply GJ.st0 1 rfl
            iterate 3 focus (intros; (conv => lhs; simp only [slotsZ, zlAt, vs0, resL, at2, eq_self, Nat.reduceEqDiff, reduceIte, Nat.reduceSub, Nat.reduceAdd, List.cons_append, List.nil_append]); all_goals rfl)
            ·
              intro gh X K zq zc zq2 zc2 zb zv hK
              refine J.p (PR.loadAll rfl At.z (by simpa [*] using ag41)) rfl ?_
              refine J.nilK ?_
              exact hK zq zc zq2 zc2 zb zv
            ·
              intro gh gh' h
              rfl
            apply GJ.st0 2 rfl
            iterate 3 focus (intros; (conv => lhs; simp only [slotsZ, zlAt, vs0, resL, at2, eq_self, Nat.reduceEqDiff, reduceIte, Nat.reduceSub, Nat.reduceAdd, List.cons_append, List.nil_append]); all_goals rfl)
            ·
              intro gh X K zq zc zq2 zc2 zb zv hK
              refine J.p (PR.loadAll rfl At.z (by simpa [*] using ag49)) rfl ?_
              refine J.nilK ?_
              exact hK zq zc zq2 zc2 zb zv
            ·
              intro gh gh' h
              rfl
            apply GJ.st2 3 rfl
            iterate 3 focus (intros; (conv => lhs; simp only [slotsZ, zlAt, vs0, resL, at2, eq_self, Nat.reduceEqDiff, reduceIte, Nat.reduceSub, Nat.reduceAdd, List.cons_append, List.nil_append]); all_goals rfl)
            ·
              intro gh X K zq zc zq2 zc2 zb zv hK
              refine J.call fn35 rfl rfl fun w hH => (toAlgebra_c hbd hbf (by omega) bl6 hH).mono ?_
              rintro _ w ⟨qdo55, cdo55, qfo55, cfo55, vso55, rfl, hH⟩
              refine ⟨_, rfl, fun a hF => J.of hF hH ?_⟩
              refine J.nilK ?_
              exact hK qdo55 cdo55 qfo55 cfo55 zb vso55
            ·
              intro gh gh' h
              refine ⟨?_, ?_, ?_⟩ <;> rfl
            apply GJ.st0 4 rfl
            iterate 3 focus (intros; (conv => lhs; simp only [slotsZ, zlAt, vs0, resL, at2, eq_self, Nat.reduceEqDiff, reduceIte, Nat.reduceSub, Nat.reduceAdd, List.cons_append, List.nil_append]); all_goals rfl)
            ·
              intro gh X K zq zc zq2 zc2 zb zv hK
              refine J.call fn30 rfl rfl fun w hH => hH.lend (.s (.s .z)) fun Hl1 hle1 hA1 hB1 hH => hH.lend (.s (.s .z)) fun Hl2 hle2 hA2 hB2 hH => hH.lend .z fun Hl3 hle3 hA3 hB3 hH => hH.lend .z fun Hl4 hle4 hA4 hB4 hH => (eqAlgebra_c ((((own_ints hA1).le hle2).le hle3).le hle4) (((own_forms hbf.wfss hA2).le hle3).le hle4) ((own_ints hA3).le hle4) (own_forms hbf.wfss hA4) (by omega) (by omega) bl hH).mono ?_
              rintro _ w ⟨rfl, hH⟩
              replace hH := hB4 _ _ hH
              replace hH := hB3 _ _ hH
              replace hH := hB2 _ _ hH
              replace hH := hB1 _ _ hH
              refine ⟨_, rfl, fun a hF => J.of hF hH ?_⟩
              refine EJ.front (.s .z) ?_
              refine EJ.front (.s .z) ?_
              refine EJ.front (.s (.s (.s .z))) ?_
              refine EJ.front (.s (.s (.s .z))) ?_
              refine J.nilK ?_
              exact hK zq zc zq2 zc2 zb zv
            ·
              intro gh gh' h
              first | simp only [h 2 rfl] | rfl
            apply GJ.st0 5 rfl
            iterate 3 focus (intros; (conv => lhs; simp only [slotsZ, zlAt, vs0, resL, at2, eq_self, Nat.reduceEqDiff, reduceIte, Nat.reduceSub, Nat.reduceAdd, List.cons_append, List.nil_append]); all_goals rfl)
            ·
              intro gh X K zq zc zq2 zc2 zb zv hK
              refine J.p (PR.not rfl) rfl ?_
              refine J.nilK ?_
              exact hK zq zc zq2 zc2 zb zv
            ·
              intro gh gh' h
              first | simp only [h 2 rfl] | rfl
            apply GJ.close [0, 1, 2, 3, 4] [0, 1, 2, 3, 4, 5, 6, 7, 8, 9, 10, 11, 12, 13, 14, 15, 16, 17, 18, 19, 20] foll0 rfl rfl rfl (by rfl)
            iterate 2 focus (intros; (conv => lhs; simp only [slotsZ, zlAt, vs0, resL, at2, eq_self, Nat.reduceEqDiff, reduceIte, Nat.reduceSub, Nat.reduceAdd, List.cons_append, List.nil_append]); all_goals rfl)
            intro gh
            generalize (gh 2).c = cdo55
            generalize (gh 2).c2 = cfo55
            generalize (gh 2).q = qdo55
            generalize (gh 2).q2 = qfo55
            generalize (gh 2).vs = vso55
            clear gh
            refine EJ.thenN (hK27 ?_)
            refine CJ.cond rfl (fun hc57 => ?_) (fun hc57 => ?_)
            ·
              refine CJ.seq fun _ hK28 _ => ?_
              refine CJ.region ?_
              refine J.p (PR.assign rfl) rfl ?_
              refine J.nil ?_
              refine EJ.thenN (hK28 ?_)
              refine CJ.ret ?_
              refine EJ.thenR ?_
              refine EJ.ret1 rfl (Res.tmp rfl) fun w hH => ?_
              replace hH := hH.tail
              replace hH := hH.tail
              replace hH := hH.tail
              replace hH := hH.tail
              replace hH := hH.tail
              replace hH := hH.tail
              replace hH := hH.tail
              replace hH := hH.tail
              replace hH := hH.tail
              replace hH := hH.tail
              replace hH := hH.tail
              replace hH := hH.tail
              replace hH := hH.tail
              replace hH := hH.tail
              replace hH := hH.tail
              replace hH := hH.tail
              replace hH := hH.tail
              replace hH := hH.tail
              first | exact ⟨rfl, hH.below⟩ | exact absurd rfl hc57p | exact absurd rfl hc57 | (exfalso; omega) | (simp at hc57; done)
            ·
              refine CJ.skip ?_
              refine EJ.thenN (hK26 ?_)
              refine CJ.seq fun _ hK29 _ => ?_
              refine CJ.seq fun _ hK30 _ => ?_
              refine CJ.region ?_
              refine J.p (PR.move rfl) rfl ?_
              refine J.p (PR.move rfl) rfl ?_
              refine J.call fn66 rfl rfl fun w hH => (toFormS_c hms (by omega) ml6 hH).mono ?_
              rintro _ w ⟨qo60, co60, vso60, rfl, hH⟩
              refine ⟨_, rfl, fun a hF => J.of hF hH ?_⟩
              refine J.call fn55 rfl rfl fun w hH => hH.lend (.s (.s (.s (.s (.s (.s (.s (.s (.s .z))))))))) fun Hl1 hle1 hA1 hB1 hH => hH.lend .z fun Hl2 hle2 hA2 hB2 hH => (eqFormS_c ((own_forms hms.wfss hA1).le hle2) (own_forms hms.wfss hA2) (by omega) ml hH).mono ?_
              rintro _ w ⟨rfl, hH⟩
              replace hH := hB2 _ _ hH
              replace hH := hB1 _ _ hH
              refine ⟨_, rfl, fun a hF => J.of hF hH ?_⟩
              refine J.p (PR.not rfl) rfl ?_
              refine J.nil ?_
              refine EJ.thenN (hK30 ?_)
              refine CJ.cond rfl (fun hc62 => ?_) (fun hc62 => ?_)
              ·
                refine CJ.seq fun _ hK31 _ => ?_
                refine CJ.region ?_
                refine J.p (PR.assign rfl) rfl ?_
                refine J.nil ?_
                refine EJ.thenN (hK31 ?_)
                refine CJ.ret ?_
                refine EJ.thenR ?_
                refine EJ.ret1 rfl (Res.tmp rfl) fun w hH => ?_
                replace hH := hH.tail
                replace hH := hH.tail
                replace hH := hH.tail
                replace hH := hH.tail
                replace hH := hH.tail
                replace hH := hH.tail
                replace hH := hH.tail
                replace hH := hH.tail
                replace hH := hH.tail
                replace hH := hH.tail
                replace hH := hH.tail
                replace hH := hH.tail
                replace hH := hH.tail
                replace hH := hH.tail
                replace hH := hH.tail
                replace hH := hH.tail
                replace hH := hH.tail
                replace hH := hH.tail
                replace hH := hH.tail
                first | exact ⟨rfl, hH.below⟩ | exact absurd rfl hc62p | exact absurd rfl hc62 | (exfalso; omega) | (simp at hc62; done)
              ·
                refine CJ.skip ?_
                refine EJ.thenN (hK29 ?_)
                refine CJ.seq fun _ hK32 _ => ?_
                refine CJ.region ?_
                refine J.p (PR.assign rfl) rfl ?_
                refine J.nil ?_
                refine EJ.thenN (hK32 ?_)
                refine CJ.ret ?_
                refine EJ.ret1 rfl (Res.tmp rfl) fun w hH => ?_
                replace hH := hH.tail
                replace hH := hH.tail
                replace hH := hH.tail
                replace hH := hH.tail
                replace hH := hH.tail
                replace hH := hH.tail
                replace hH := hH.tail
                replace hH := hH.tail
                replace hH := hH.tail
                replace hH := hH.tail
                replace hH := hH.tail
                replace hH := hH.tail
                replace hH := hH.tail
                replace hH := hH.tail
                replace hH := hH.tail
                replace hH := hH.tail
                replace hH := hH.tail
                replace hH := hH.tail
                replace hH := hH.tail
                first | exact ⟨rfl, hH.below⟩ | exact absurd rfl hc62p | exact absurd rfl hc62 | (exfalso; omega) | (simp at hc62; done)
end Go.Proofs.Ytpojpokldncglaa.G
namespace Go.Proofs.Ytpojpokldncglaa.fnExactIsMap
open Go.ChangeShapes Go.WideShapes Go.ChangeAt Go.RowKit
open Go.Proofs.Ytpojpokldncglaa.G
theorem u49 : Try.prog.underlying 49 = some (TypeDesc.struct #[{ name := "Degrees", type := 22, offset := 0, embedded := false, tag := "", pkgPath := "", byteOffset := 0 }, { name := "Images", type := 47, offset := 1, embedded := false, tag := "", pkgPath := "", byteOffset := 24 }]) := by kernel_rfl
theorem u22 : Try.prog.underlying 22 = some (TypeDesc.slice 2) := by kernel_rfl
theorem u2 : Try.prog.underlying 2 = some (TypeDesc.int .i64) := by kernel_rfl
theorem u47 : Try.prog.underlying 47 = some (TypeDesc.slice 25) := by kernel_rfl
theorem u25 : Try.prog.underlying 25 = some (TypeDesc.struct #[{ name := "Terms", type := 23, offset := 0, embedded := false, tag := "", pkgPath := "", byteOffset := 0 }]) := by kernel_rfl
theorem u23 : Try.prog.underlying 23 = some (TypeDesc.slice 139) := by kernel_rfl
theorem u139 : Try.prog.underlying 139 = some (TypeDesc.struct #[{ name := "Monomial", type := 85, offset := 0, embedded := false, tag := "", pkgPath := "", byteOffset := 0 }, { name := "Factor", type := 2, offset := 8, embedded := false, tag := "", pkgPath := "", byteOffset := 8 }]) := by kernel_rfl
theorem u85 : Try.prog.underlying 85 = some (TypeDesc.array 8 5) := by kernel_rfl
theorem u5 : Try.prog.underlying 5 = some (TypeDesc.int .u8) := by kernel_rfl
theorem u4 : Try.prog.underlying 4 = some (TypeDesc.bool) := by kernel_rfl
theorem own : ownKnob Try.prog.godebug = none := by kernel_rfl
set_option maxRecDepth 100000 in
theorem lifted (os : Os) (started : os.Started) (H : Type) (enc : TypeId × Value → H) :
    ReturnsInHanded {} Try.checked os 16 .any (Rows.fnExactIsMapSpec.pre6 enc Try.prog Try.f16 Rows.fnExactIsMapRow.domain false) (Rows.fnExactIsMapSpec.post enc Try.prog Try.f16 false true false false) := by
  refine returnsInHanded_of_change_sized (C := Try.checked) own started (by kernel_rfl) Try.func16
    (ChangeSpec.witness6 (enc := enc) (C := Try.checked) false ⟨#[], #[.agg #[.slice none 0 0, .slice none 0 0], .agg #[.slice none 0 0, .slice none 0 0], .slice none 0 0], []⟩ 12 (by kernel_rfl) (by kernel_rfl) (by kernel_rfl) (by kernel_rfl)) ?_
  intro W base args ds gs before hval0 hW hcnd hsz0 _
  have hval : ∀ (j : Nat) t v, Try.f16.params[j]? = some t → args[j]? = some v → Value.okWide Try.prog W .any base t v := hval0
  have hW' := hW
  obtain ⟨p, q, hA0, hV, rfl, hfz, hnd⟩ := hW
  have hA : DataW.TrodAll enc Try.prog W 0 (fun _ => true) true Try.f16.params.toList args.toList ds p := hA0
  rw [Try.params16] at hA hval
  obtain ⟨v0, vs0, d0, ds0, p0, q0, hargs, rfl, rfl, h0, r0⟩ := trodAll_cons hA
  obtain ⟨v1, vs1, d1, ds1, p1, q1, rfl, rfl, rfl, h1, r1⟩ := trodAll_cons r0
  obtain ⟨v2, vs2, d2, ds2, p2, q2, rfl, rfl, rfl, h2, r2⟩ := trodAll_cons r1
  obtain ⟨rfl, rfl, rfl⟩ := trodAll_nil r2
  obtain rfl : args = #[v0, v1, v2] := by cases args; simp_all
  obtain ⟨rfl, rfl⟩ := trodVars_none hV
  obtain ⟨q0d, c0d, ds0, q0f, c0f, fs0, rfl, X0, F0, le0, fl0⟩ := openV_alg u49 rfl rfl rfl rfl (by kernel_rfl) (by kernel_rfl) (by kernel_rfl) u22 u2 (by kernel_rfl) u47 (by kernel_rfl) (fun n l y hy => tr_form u25 rfl rfl (by kernel_rfl) (by kernel_rfl) u23 (by kernel_rfl) u139 rfl rfl rfl rfl u85 u5 (by kernel_rfl) (by kernel_rfl) u2 (by kernel_rfl) hy) (hval 0 49 v0 rfl rfl) h0
  obtain ⟨q1d, c1d, ds1, q1f, c1f, fs1, rfl, X1, F1, le1, fl1⟩ := openV_alg u49 rfl rfl rfl rfl (by kernel_rfl) (by kernel_rfl) (by kernel_rfl) u22 u2 (by kernel_rfl) u47 (by kernel_rfl) (fun n l y hy => tr_form u25 rfl rfl (by kernel_rfl) (by kernel_rfl) u23 (by kernel_rfl) u139 rfl rfl rfl rfl u85 u5 (by kernel_rfl) (by kernel_rfl) u2 (by kernel_rfl) hy) (hval 1 49 v1 rfl rfl) h1
  obtain ⟨q2, c2, fs2, rfl, X2, le2, fl2⟩ := openV_forms u47 (by kernel_rfl) (fun n l y hy => tr_form u25 rfl rfl (by kernel_rfl) (by kernel_rfl) u23 (by kernel_rfl) u139 rfl rfl rfl rfl u85 u5 (by kernel_rfl) (by kernel_rfl) u2 (by kernel_rfl) hy) (hval 2 47 v2 rfl rfl) h2
  clear hA0 hval0 hsz0
  refine ((lawIsMap_c X0 F0 X1 F1 X2 le0 fl0 le1 fl1 le2 fl2 (Hp.start (H := hp W) fun _ _ h => h)).mono fun e W' ⟨he, bel⟩ => ?_)
  subst he
  exact ⟨_, rfl, law_post (f := Try.f16) (by kernel_rfl) (by kernel_rfl) rfl rfl u4 rfl hW' bel⟩
theorem joined : joinedFacts Try.prog 16 Try.f16 Rows.fnExactIsMapSpec Rows.fnExactIsMapRow = true := by
  unfold joinedFacts
  simp only [Bool.and_eq_true]
  repeat' apply And.intro
  all_goals first
    | with_reducible exact Facts.fEnter
    | with_reducible exact Facts.fLaid
    | with_reducible exact Facts.fMaps
    | with_reducible exact Facts.fHeard
    | (rw [Facts.fMake]; rfl)
    | (rw [Facts.fLift]; rfl)
    | (rw [Facts.fKeys]; rfl)
    | (rw [Facts.fStops]; rfl)
    | (rw [Facts.fStopK]; rfl)
    | as_aux_lemma => kernel_rfl
theorem over : Rows.fnExactIsMapRow.holds Try.pinned (OpenSpec.ofChange Rows.fnExactIsMapSpec) :=
  OpenClaim.holds_of_wide 16 Try.f16 rfl rfl rfl rfl rfl rfl rfl ⟨rfl, rfl, rfl, rfl, rfl⟩ rfl rfl rfl rfl rfl (by as_aux_lemma => kernel_rfl) Try.func16 joined
    (of_decide_eq_true (by as_aux_lemma => kernel_rfl)) (by unfold Func.isWrapper; first | (rw [if_pos (by decide +kernel)]; kernel_rfl) | (rw [if_neg (by decide +kernel)]; exact ⟨rfl, rfl⟩))
    (fun os started H enc _ => lifted os started H enc)
theorem proved : Rows.FnExactIsMapSaid := over
#print axioms proved
end Go.Proofs.Ytpojpokldncglaa.fnExactIsMap
namespace Go.Proofs.Ytpojpokldncglaa
theorem fnExactIsMap_holds : Rows.FnExactIsMapSaid := fnExactIsMap.proved
end Go.Proofs.Ytpojpokldncglaa
