/- IsAlgebra on both sides. No condition. -/
import Derived.Test.YtpojpokldncglaaGMap
import Derived.Test.YtpojpokldncglaaProg
import Derived.Test.YtpojpokldncglaaWa
import Derived.Test.YtpojpokldncglaaWb
import Derived.Test.YtpojpokldncglaaWc
import Derived.Test.YtpojpokldncglaaWd
import Derived.Test.YtpojpokldncglaaWe
import Derived.Test.YtpojpokldncglaaWf
import Derived.Test.YtpojpokldncglaaWg
import Derived.Test.YtpojpokldncglaaWh
import Derived.Test.YtpojpokldncglaaWi
import Derived.Test.YtpojpokldncglaaWj
import Derived.Test.YtpojpokldncglaaWk
import Derived.Test.YtpojpokldncglaaWl
import Derived.Test.YtpojpokldncglaaWm
import Derived.Test.YtpojpokldncglaaWn
import Derived.Test.YtpojpokldncglaaWo
import Derived.Test.YtpojpokldncglaaWp
import Derived.Test.YtpojpokldncglaaXa
import Derived.Test.YtpojpokldncglaaXb
import Derived.DeepKeys4
import Derived.Test.YtpojpokldncglaaXc
import Derived.Test.YtpojpokldncglaaXd
import Derived.Test.YtpojpokldncglaaXe
import Derived.Test.YtpojpokldncglaaXf
import Derived.Test.YtpojpokldncglaaXg
import Derived.Test.YtpojpokldncglaaXh
import Derived.Test.YtpojpokldncglaaXi
import Derived.Test.YtpojpokldncglaaXj
import Derived.Test.YtpojpokldncglaaXk
import Derived.Test.YtpojpokldncglaaXl
import Derived.Test.YtpojpokldncglaaXm
import Derived.Test.YtpojpokldncglaaXn
import Derived.Test.YtpojpokldncglaaXo
import Derived.Test.YtpojpokldncglaaXp
set_option linter.unusedVariables false
set_option linter.unusedSimpArgs false
namespace Go.Proofs.Ytpojpokldncglaa.G
open Go Go.RowKit
namespace Xq
theorem u107 : Try.prog.underlying 107 = some (TypeDesc.map 94 2) := by kernel_rfl
theorem u2 : Try.prog.underlying 2 = some (TypeDesc.int .i64) := by kernel_rfl
theorem u22 : Try.prog.underlying 22 = some (TypeDesc.slice 2) := by kernel_rfl
theorem u27 : Try.prog.underlying 27 = some (TypeDesc.slice 88) := by kernel_rfl
theorem u29 : Try.prog.underlying 29 = some (TypeDesc.struct #[{ name := "Terms", type := 27, offset := 0, embedded := false, tag := "", pkgPath := "", byteOffset := 0 }]) := by kernel_rfl
theorem u39 : Try.prog.underlying 39 = some (TypeDesc.slice 29) := by kernel_rfl
theorem u41 : Try.prog.underlying 41 = some (TypeDesc.struct #[{ name := "Degrees", type := 22, offset := 0, embedded := false, tag := "", pkgPath := "", byteOffset := 0 }, { name := "Images", type := 39, offset := 1, embedded := false, tag := "", pkgPath := "", byteOffset := 24 }]) := by kernel_rfl
theorem sz2 : Size Try.prog 2 1 := by unfold Size; kernel_rfl
theorem sz22 : Size Try.prog 22 1 := by unfold Size; kernel_rfl
theorem sz27 : Size Try.prog 27 1 := by unfold Size; kernel_rfl
theorem sz29 : Size Try.prog 29 1 := by unfold Size; kernel_rfl
theorem sz39 : Size Try.prog 39 1 := by unfold Size; kernel_rfl
theorem ze29 : Zero Try.prog 29 [.slice none 0 0] := by unfold Zero; kernel_rfl
theorem pl2 : Plain Try.prog 2 := ⟨_, u2, rfl⟩
theorem pl22 : Plain Try.prog 22 := ⟨_, u22, rfl⟩
theorem pl27 : Plain Try.prog 27 := ⟨_, u27, rfl⟩
theorem pl39 : Plain Try.prog 39 := ⟨_, u39, rfl⟩
theorem ag29 : Agg Try.prog 29 1 := ⟨_, u29, rfl, by kernel_rfl⟩
theorem ag41 : Agg Try.prog 41 2 := ⟨_, u41, rfl, by kernel_rfl⟩
theorem fn119 : Fn Try.prog 119 := ⟨_, Try.func119, by kernel_rfl, rfl⟩
theorem fn128 : Fn Try.prog 128 := ⟨_, Try.func128, by kernel_rfl, rfl⟩
theorem fn129 : Fn Try.prog 129 := ⟨_, Try.func129, by kernel_rfl, rfl⟩
theorem fn90 : Fn Try.prog 90 := ⟨_, Try.func90, by kernel_rfl, rfl⟩
theorem fn91 : Fn Try.prog 91 := ⟨_, Try.func91, by kernel_rfl, rfl⟩
theorem fn92 : Fn Try.prog 92 := ⟨_, Try.func92, by kernel_rfl, rfl⟩
theorem fn93 : Fn Try.prog 93 := ⟨_, Try.func93, by kernel_rfl, rfl⟩
theorem fn94 : Fn Try.prog 94 := ⟨_, Try.func94, by kernel_rfl, rfl⟩
theorem fn95 : Fn Try.prog 95 := ⟨_, Try.func95, by kernel_rfl, rfl⟩
theorem fn96 : Fn Try.prog 96 := ⟨_, Try.func96, by kernel_rfl, rfl⟩
theorem fn98 : Fn Try.prog 98 := ⟨_, Try.func98, by kernel_rfl, rfl⟩
theorem foll0 : Try.prog.follows .mixedOrders = true := by kernel_rfl
end Xq
open Xq

theorem imOk_yes {ds : List Int} {fs : List (List Term)} {i : Nat} (h1 : isForm ds (fm fs i) = true) (h2 : homog ds (fm fs i) = true) (h3 : degF ds (fm fs i) = -1 ∨ degF ds (fm fs i) = ds.getD i 0 + 1) : imOk ds fs i = true := by
  unfold imOk degOk
  rw [h1, h2]
  rcases h3 with h | h <;> rw [decide_eq_true h] <;> simp
theorem imOk_no1 {ds : List Int} {fs : List (List Term)} {i : Nat} (h1 : isForm ds (fm fs i) = false) : imOk ds fs i = false := by unfold imOk; rw [h1]; rfl
theorem imOk_no2 {ds : List Int} {fs : List (List Term)} {i : Nat} (h1 : homog ds (fm fs i) = false) : imOk ds fs i = false := by unfold imOk degOk; rw [h1]; simp
theorem imOk_no3 {ds : List Int} {fs : List (List Term)} {i : Nat} (h1 : ¬ degF ds (fm fs i) = -1) (h2 : ¬ degF ds (fm fs i) = ds.getD i 0 + 1) : imOk ds fs i = false := by unfold imOk degOk; rw [decide_eq_false h1, decide_eq_false h2]; simp

set_option maxHeartbeats 4000000 in
set_option maxRecDepth 10000 in
theorem l02Is_c {B : World} {H0 H : HP} {L : List SA} {w : World} {qad qaf : Option Addr} {cad caf : Nat} {ad : List Int} {af : List (List Term)}  (had : Ints H qad ad) (haf : Forms H qaf af) (hn8 : ad.length ≤ 1048576) (hn9 : af.length ≤ 1048576) (hl9 : ∀ i, i < af.length → (fm af i).length ≤ 1048576) (hH : Hp B H0 H L w) :
    Calls Try.prog 89 [.agg [.slice qad ad.length cad, .slice qaf af.length caf].toArray].toArray w fun e w' => e = .returned (.bool (isAlg ad af)) ∧ Hp B H0 H L w' := by
  refine CJ.enter Try.func89 rfl 86 rfl rfl [(0, .agg [.slice qad ad.length cad, .slice qaf af.length caf].toArray)] rfl hH ?_
  clear hH
  refine CJ.seq fun _ hK1 _ => ?_
  refine CJ.region ?_
  refine J.box rfl rfl rfl fun g1 => ?_
  refine J.p (PR.assign rfl) rfl ?_
  refine J.nil ?_
  refine EJ.thenN (hK1 ?_)
  refine CJ.seq fun _ hK2 _ => ?_
  refine CJ.seq fun _ hK3 _ => ?_
  refine CJ.region ?_
  refine J.p (PR.fldA u41 rfl sz22 rfl) rfl ?_
  refine J.p (PR.load rfl At.z rfl pl22) rfl ?_
  refine J.call fn128 rfl rfl fun w hH => (l01Degrees_c had (by omega) hH).mono ?_
  rintro _ w ⟨rfl, hH⟩
  refine ⟨_, rfl, fun a hF => J.of hF hH ?_⟩
  refine J.p (PR.not rfl) rfl ?_
  refine J.p (PR.move rfl) rfl ?_
  refine J.splitB (jd := 11) rfl (fun hg11 => ?_) (fun hg11 => ?_)
  ·
    try have hg11p := of_decide_eq_true hg11
    refine J.gn rfl rfl rfl hg11 ?_
    refine J.gn rfl rfl rfl hg11 ?_
    refine J.gn rfl rfl rfl hg11 ?_
    refine J.gn rfl rfl rfl hg11 ?_
    refine J.gn rfl rfl rfl hg11 ?_
    refine J.gn rfl rfl rfl hg11 ?_
    refine J.gn rfl rfl rfl hg11 ?_
    refine J.p (PR.pickT rfl hg11 rfl) rfl ?_
    refine J.nil ?_
    refine EJ.thenN (hK3 ?_)
    refine CJ.condT rfl ?_
    refine CJ.seq fun _ hK4 _ => ?_
    refine CJ.region ?_
    refine J.p (PR.assign rfl) rfl ?_
    refine J.nil ?_
    refine EJ.thenN (hK4 ?_)
    refine CJ.ret ?_
    refine EJ.thenR ?_
    refine EJ.ret1 rfl (Res.tmp rfl) fun w hH => ?_
    replace hH := hH.tail
    exact ⟨rb (by unfold isAlg; rw [show isDeg ad = false by simpa using hg11]; rfl), hH⟩
  ·
    try have hg11p := of_decide_eq_false hg11
    refine J.gy (PR.fldA u41 rfl sz39 rfl) rfl rfl rfl hg11 ?_
    refine J.gy (PR.load rfl At.z rfl pl39) rfl rfl rfl hg11 ?_
    refine J.gy (PR.lenSlice u39 rfl rfl) rfl rfl rfl hg11 ?_
    refine J.gy (PR.fldA u41 rfl sz22 rfl) rfl rfl rfl hg11 ?_
    refine J.gy (PR.load rfl At.z rfl pl22) rfl rfl rfl hg11 ?_
    refine J.gy (PR.lenSlice u22 rfl rfl) rfl rfl rfl hg11 ?_
    refine J.gy (PR.neq rfl rfl) rfl rfl rfl hg11 ?_
    refine J.p (PR.pickF rfl hg11 rfl) rfl ?_
    refine J.nil ?_
    refine EJ.thenN (hK3 ?_)
    refine CJ.condD rfl (fun hc19 => ?_) (fun hc19 => ?_)
    ·
      refine CJ.seq fun _ hK5 _ => ?_
      refine CJ.region ?_
      refine J.p (PR.assign rfl) rfl ?_
      refine J.nil ?_
      refine EJ.thenN (hK5 ?_)
      refine CJ.ret ?_
      refine EJ.thenR ?_
      refine EJ.ret1 rfl (Res.tmp rfl) fun w hH => ?_
      replace hH := hH.tail
      exact ⟨rb (by unfold isAlg; rw [decide_eq_false (show ¬ af.length = ad.length by omega)]; simp), hH⟩
    ·
      have hD : isDeg ad = true := by simpa using hg11
      have hn := isDeg_len hD
      have hd := isDeg_bd hD
      have hlen : af.length = ad.length := by omega
      have hpos9 : ∀ j, j < ad.length → 0 ≤ ad.getD j 0 := fun j _ => (hd j).1
      refine CJ.skip ?_
      refine EJ.thenN (hK2 ?_)
      refine CJ.seq fun _ hK6 _ => ?_
      refine CJ.seq fun _ hK7 _ => ?_
      refine CJ.region ?_
      refine J.p (PR.assign rfl) rfl ?_
      refine J.nil ?_
      refine EJ.thenN (hK7 ?_)
      refine CJ.block ?_
      refine CJ.loopU (σ := Nat) (fun (i : Nat) => [(3, .int .i64 (i : Int))]) (fun (i : Nat) => H) (fun (i : Nat) => obj g1 (.cells [.slice qad ad.length cad, .slice qaf af.length caf].toArray 41 (0, 0)) :: L) (fun (i : Nat) => i ≤ af.length ∧ ∀ j, j < i → imOk ad af j = true) (fun (i : Nat) => af.length - i) 0 ⟨by omega, fun j hj => by omega⟩ ⟨rfl, trivial⟩ rfl rfl ?_
      rintro i ⟨hi, hI⟩ _ hAg0
      refine CJ.seq fun _ hK8 _ => ?_
      refine CJ.seq fun _ hK9 _ => ?_
      refine CJ.region ?_
      refine J.p (PR.move rfl) rfl ?_
      refine J.p (PR.fldA u41 rfl sz39 rfl) rfl ?_
      refine J.p (PR.load rfl At.z rfl pl39) rfl ?_
      refine J.p (PR.lenSlice u39 rfl rfl) rfl ?_
      refine J.p (PR.lss rfl rfl) rfl ?_
      refine J.nil ?_
      refine EJ.thenN (hK9 ?_)
      refine CJ.condD rfl (fun hc24 => ?_) (fun hc24 => ?_)
      ·
        have hl0 := hl9 i (by omega)
        have hdi := hd i
        refine CJ.skip ?_
        refine EJ.thenN (hK8 ?_)
        refine CJ.seq fun _ hK10 _ => ?_
        refine CJ.block ?_
        refine CJ.seq fun _ hK11 _ => ?_
        refine CJ.seq fun _ hK12 _ => ?_
        refine CJ.head [[], [0], [], [2], [], [3, 4], [5]] (by kernel_rfl) ?_
        refine HJ.op (fun gh => PR.fldA u41 rfl sz22 rfl) ?_
        refine HJ.op (fun gh => PR.load rfl At.z rfl pl22) ?_
        refine HJ.op (fun gh => PR.fldA u41 rfl sz39 rfl) ?_
        refine HJ.op (fun gh => PR.load rfl At.z rfl pl39) ?_
        refine HJ.op (fun gh => PR.move rfl) ?_
        refine HJ.op (fun gh => PR.idx1 u39 sz29 rfl rfl rfl (by omega) haf.sm) ?_
        obtain ⟨qe33, ce33, he33, le33, Fe33⟩ := haf i (by omega)
        refine HJ.op (fun gh => PR.loadHagg (cs := [_]) rfl (one_cell he33) (haf.sm (i := i) (by omega)) ag29) ?_
        refine HJ.close 7 1 foll0 (by kernel_rfl) rfl rfl fun gh => ?_
        refine J.conv (us' := (27, _) :: (28, _) :: (29, _) :: (30, _) :: (31, _) :: (32, _) :: (33, _) :: _) (L' := _) rfl rfl ?_
        refine J.call fn129 rfl rfl fun w hH => (l01Is_c had Fe33 (by omega) hpos9 (by omega) hH).mono ?_
        rintro _ w ⟨rfl, hH⟩
        refine ⟨_, rfl, fun a hF => J.of hF hH ?_⟩
        refine J.nil ?_
        refine EJ.still ?_
        refine JS.op (PR.not rfl) rfl ?_
        refine JS.nil ?_
        refine EJ.thenN (hK12 ?_)
        refine CJ.cond rfl (fun h35 => ?_) (fun h35 => ?_)
        ·
          refine CJ.seq fun _ hK13 _ => ?_
          refine CJ.region ?_
          refine J.p (PR.assign rfl) rfl ?_
          refine J.nil ?_
          refine EJ.thenN (hK13 ?_)
          refine CJ.ret ?_
          refine EJ.thenR ?_
          refine EJ.inR ?_
          refine EJ.thenR ?_
          refine EJ.thenR ?_
          refine EJ.inR ?_
          refine EJ.thenR ?_
          refine EJ.ret1 rfl (Res.tmp rfl) fun w hH => ?_
          replace hH := hH.tail
          exact ⟨rb (by unfold isAlg; rw [imsOk_bad (i := i) (by omega) (imOk_no1 (by simpa using h35))]; simp), hH⟩
        ·
          have hfo : isForm ad (fm af i) = true := by simpa using h35
          refine CJ.skip ?_
          refine EJ.thenN (hK11 ?_)
          refine CJ.seq fun _ hK14 _ => ?_
          refine CJ.head [[], [0], [], [2], [], [3, 4], [5]] (by kernel_rfl) ?_
          refine HJ.op (fun gh => PR.fldA u41 rfl sz22 rfl) ?_
          refine HJ.op (fun gh => PR.load rfl At.z rfl pl22) ?_
          refine HJ.op (fun gh => PR.fldA u41 rfl sz39 rfl) ?_
          refine HJ.op (fun gh => PR.load rfl At.z rfl pl39) ?_
          refine HJ.op (fun gh => PR.move rfl) ?_
          refine HJ.op (fun gh => PR.idx1 u39 sz29 rfl rfl rfl (by omega) haf.sm) ?_
          obtain ⟨qe43, ce43, he43, le43, Fe43⟩ := haf i (by omega)
          refine HJ.op (fun gh => PR.loadHagg (cs := [_]) rfl (one_cell he43) (haf.sm (i := i) (by omega)) ag29) ?_
          refine HJ.close 7 1 foll0 (by kernel_rfl) rfl rfl fun gh => ?_
          refine J.conv (us' := (37, _) :: (38, _) :: (39, _) :: (40, _) :: (41, _) :: (42, _) :: (43, _) :: _) (L' := _) rfl rfl ?_
          refine J.call fn119 rfl rfl fun w hH => (l01Degree_c had Fe43 hn hd (by omega) hH).mono ?_
          rintro _ w ⟨rfl, hH⟩
          refine ⟨_, rfl, fun a hF => J.of hF hH ?_⟩
          refine J.nil ?_
          refine EJ.still ?_
          refine JS.op (PR.move rfl) rfl ?_
          refine JS.op (PR.extract rfl rfl) rfl ?_
          refine JS.op (PR.extract rfl rfl) rfl ?_
          refine JS.op (PR.assign rfl) rfl ?_
          refine JS.op (PR.assign rfl) rfl ?_
          refine JS.nil ?_
          refine EJ.thenN (hK14 ?_)
          refine CJ.seq fun _ hK15 _ => ?_
          refine CJ.region ?_
          refine J.p (PR.move rfl) rfl ?_
          refine J.p (PR.not rfl) rfl ?_
          refine J.p (PR.move rfl) rfl ?_
          refine J.splitB (jd := 49) rfl (fun h49 => ?_) (fun h49 => ?_)
          ·
            try have h49p := of_decide_eq_true h49
            refine J.gn rfl rfl rfl h49 ?_
            refine J.gn rfl rfl rfl h49 ?_
            refine J.gn rfl rfl rfl h49 ?_
            refine J.gn rfl rfl rfl h49 ?_
            refine J.gn rfl rfl rfl h49 ?_
            refine J.gn rfl rfl rfl h49 ?_
            refine J.gn rfl rfl rfl h49 ?_
            refine J.gn rfl rfl rfl h49 ?_
            refine J.gn rfl rfl rfl h49 ?_
            refine J.gu rfl rfl rfl ?_
            refine J.gu rfl rfl rfl ?_
            refine J.gu rfl rfl rfl ?_
            refine J.gu rfl rfl rfl ?_
            refine J.gu rfl rfl rfl ?_
            refine J.gu rfl rfl rfl ?_
            refine J.gu rfl rfl rfl ?_
            refine J.gu rfl rfl rfl ?_
            refine J.gn rfl rfl rfl h49 ?_
            refine J.p (PR.pickT rfl h49 rfl) rfl ?_
            refine J.nil ?_
            refine EJ.thenN (hK15 ?_)
            refine CJ.condT rfl ?_
            refine CJ.seq fun _ hK16 _ => ?_
            refine CJ.region ?_
            refine J.p (PR.assign rfl) rfl ?_
            refine J.nil ?_
            refine EJ.thenN (hK16 ?_)
            refine CJ.ret ?_
            refine EJ.inR ?_
            refine EJ.thenR ?_
            refine EJ.thenR ?_
            refine EJ.inR ?_
            refine EJ.thenR ?_
            refine EJ.ret1 rfl (Res.tmp rfl) fun w hH => ?_
            replace hH := hH.tail
            exact ⟨rb (by unfold isAlg; rw [imsOk_bad (i := i) (by omega) (imOk_no2 (by simpa using h49))]; simp), hH⟩
          ·
            try have h49p := of_decide_eq_false h49
            refine J.gy (PR.fldA u41 rfl sz39 rfl) rfl rfl rfl h49 ?_
            refine J.gy (PR.load rfl At.z rfl pl39) rfl rfl rfl h49 ?_
            refine J.gy (PR.move rfl) rfl rfl rfl h49 ?_
            refine J.gy (PR.idx1 u39 sz29 rfl rfl rfl (by omega) haf.sm) rfl rfl rfl h49 ?_
            refine J.gy (PR.fldP u29 rfl sz27 rfl (haf.sm (i := i) (by omega))) rfl rfl rfl h49 ?_
            obtain ⟨qe55, ce55, he55, le55, Fe55⟩ := haf i (by omega)
            refine J.gy (PR.loadH rfl he55 pl27) rfl rfl rfl h49 ?_
            refine J.gy (PR.lenSlice u27 rfl rfl) rfl rfl rfl h49 ?_
            refine J.gy (PR.gtr rfl rfl) rfl rfl rfl h49 ?_
            refine J.gy (PR.move rfl) rfl rfl rfl h49 ?_
            refine J.splitB (jd := 58) rfl (fun h58 => ?_) (fun h58 => ?_)
            ·
              try have h58p := of_decide_eq_true h58
              refine J.gy (PR.move rfl) rfl rfl rfl h58 ?_
              refine J.gy (PR.fldA u41 rfl sz22 rfl) rfl rfl rfl h58 ?_
              refine J.gy (PR.load rfl At.z rfl pl22) rfl rfl rfl h58 ?_
              refine J.gy (PR.move rfl) rfl rfl rfl h58 ?_
              refine J.gy (PR.idx1 u22 sz2 rfl rfl rfl (by omega) had.sm) rfl rfl rfl h58 ?_
              refine J.gy (PR.loadH rfl (had _ (by omega)) pl2) rfl rfl rfl h58 ?_
              refine J.gy (PR.add rfl rfl (by first | exact nw _ (by omega) | rfl)) rfl rfl rfl h58 ?_
              refine J.gy (PR.neq rfl rfl) rfl rfl rfl h58 ?_
              refine J.gy (PR.pickT rfl h58 rfl) rfl rfl rfl h49 ?_
              refine J.p (PR.pickF rfl h49 rfl) rfl ?_
              refine J.nil ?_
              refine EJ.thenN (hK15 ?_)
              refine CJ.condD rfl (fun h68 => ?_) (fun h68 => ?_)
              ·
                refine CJ.seq fun _ hK17 _ => ?_
                refine CJ.region ?_
                refine J.p (PR.assign rfl) rfl ?_
                refine J.nil ?_
                refine EJ.thenN (hK17 ?_)
                refine CJ.ret ?_
                refine EJ.inR ?_
                refine EJ.thenR ?_
                refine EJ.thenR ?_
                refine EJ.inR ?_
                refine EJ.thenR ?_
                refine EJ.ret1 rfl (Res.tmp rfl) fun w hH => ?_
                replace hH := hH.tail
                exact ⟨rb (by unfold isAlg; rw [imsOk_bad (i := i) (by omega) (imOk_no3 (fun e => (degF_neg hn hd (haf.wfss.fm i) (by simpa using h49)).1 e (by omega)) h68)]; simp), hH⟩
              ·
                refine CJ.skip ?_
                refine EJ.inN ?_
                refine EJ.thenN (hK10 ?_)
                refine CJ.region ?_
                refine J.p (PR.move rfl) rfl ?_
                refine J.p (PR.add rfl rfl (by first | exact nw _ (by omega) | rfl)) rfl ?_
                refine J.p (PR.assign rfl) rfl ?_
                refine J.nil ?_
                refine EJ.thenN ?_
                exact hAg0 (i + 1) ⟨by omega, upto hI (imOk_yes hfo (by simpa using h49) (.inr (Decidable.not_not.1 h68)))⟩ (by omega) 53 rfl rfl ⟨rfl, trivial⟩ rfl rfl
            ·
              try have h58p := of_decide_eq_false h58
              refine J.gn rfl rfl rfl h58 ?_
              refine J.gn rfl rfl rfl h58 ?_
              refine J.gn rfl rfl rfl h58 ?_
              refine J.gn rfl rfl rfl h58 ?_
              refine J.gn rfl rfl rfl h58 ?_
              refine J.gn rfl rfl rfl h58 ?_
              refine J.gn rfl rfl rfl h58 ?_
              refine J.gn rfl rfl rfl h58 ?_
              refine J.gy (PR.pickF rfl h58 rfl) rfl rfl rfl h49 ?_
              refine J.p (PR.pickF rfl h49 rfl) rfl ?_
              refine J.nil ?_
              refine EJ.thenN (hK15 ?_)
              refine CJ.condF rfl ?_
              refine CJ.skip ?_
              refine EJ.inN ?_
              refine EJ.thenN (hK10 ?_)
              refine CJ.region ?_
              refine J.p (PR.move rfl) rfl ?_
              refine J.p (PR.add rfl rfl (by first | exact nw _ (by omega) | rfl)) rfl ?_
              refine J.p (PR.assign rfl) rfl ?_
              refine J.nil ?_
              refine EJ.thenN ?_
              exact hAg0 (i + 1) ⟨by omega, upto hI (imOk_yes hfo (by simpa using h49) (.inl ((degF_neg hn hd (haf.wfss.fm i) (by simpa using h49)).2 (by omega))))⟩ (by omega) 53 rfl rfl ⟨rfl, trivial⟩ rfl rfl
      ·
        have hM9 := imsOk_good (ds := ad) (fs := af) (fun j hj => hI j (by omega))
        have hA := AlgOk.of hD hlen hM9 haf.wfss
        refine CJ.exit ?_
        refine EJ.thenE ?_
        refine EJ.thenE ?_
        refine EJ.inE ?_
        refine EJ.thenN (hK6 ?_)
        refine CJ.seq fun _ hK18 _ => ?_
        refine CJ.seq fun _ hK19 _ => ?_
        refine CJ.region ?_
        refine J.p (PR.assign rfl) rfl ?_
        refine J.nil ?_
        refine EJ.thenN (hK19 ?_)
        refine CJ.block ?_
        refine CJ.loopU (σ := Nat) (fun (k : Nat) => [(6, .int .i64 (k : Int))]) (fun (k : Nat) => H) (fun (k : Nat) => obj g1 (.cells [.slice qad ad.length cad, .slice qaf af.length caf].toArray 41 (0, 0)) :: L) (fun (k : Nat) => k ≤ af.length ∧ ∀ j, j < k → (dS ad af (toS (fm af j))).length = 0) (fun (k : Nat) => af.length - k) 0 ⟨by omega, fun j hj => by omega⟩ ⟨rfl, trivial⟩ rfl rfl ?_
        rintro k ⟨hk, hJ⟩ _ hAg1
        refine CJ.seq fun _ hK20 _ => ?_
        refine CJ.seq fun _ hK21 _ => ?_
        refine CJ.region ?_
        refine J.p (PR.move rfl) rfl ?_
        refine J.p (PR.fldA u41 rfl sz39 rfl) rfl ?_
        refine J.p (PR.load rfl At.z rfl pl39) rfl ?_
        refine J.p (PR.lenSlice u39 rfl rfl) rfl ?_
        refine J.p (PR.lss rfl rfl) rfl ?_
        refine J.nil ?_
        refine EJ.thenN (hK21 ?_)
        refine CJ.condD rfl (fun h73 => ?_) (fun h73 => ?_)
        ·
          have hkl : k < af.length := by omega
          refine CJ.skip ?_
          refine EJ.thenN (hK20 ?_)
          refine CJ.seq fun _ hK22 _ => ?_
          refine CJ.block ?_
          refine CJ.seq fun _ hK23 _ => ?_
          refine CJ.head [[], [], [1], [], [2, 3], [4]] (by kernel_rfl) ?_
          refine HJ.op (fun gh => PR.loadAll rfl At.z (by simpa [*] using ag41)) ?_
          refine HJ.op (fun gh => PR.fldA u41 rfl sz39 rfl) ?_
          refine HJ.op (fun gh => PR.load rfl At.z rfl pl39) ?_
          refine HJ.op (fun gh => PR.move rfl) ?_
          refine HJ.op (fun gh => PR.idx1 u39 sz29 rfl rfl rfl (by omega) haf.sm) ?_
          obtain ⟨qe81, ce81, he81, le81, Fe81⟩ := haf k (by omega)
          refine HJ.op (fun gh => PR.loadHagg (cs := [_]) rfl (one_cell he81) (haf.sm (i := k) (by omega)) ag29) ?_
          refine HJ.close 6 1 foll0 (by kernel_rfl) rfl rfl fun gh => ?_
          refine J.conv (us' := (76, _) :: (77, _) :: (78, _) :: (79, _) :: (80, _) :: (81, _) :: _) (L' := _) rfl rfl ?_
          refine J.call fn98 rfl rfl fun w hH => (l02D_c had haf Fe81 hn hd hA.fok hA.hl hA.kex (hA.fok k hkl).1 (hA.kex k hkl) (by omega) hA.len (hA.len k hkl) hH).mono ?_
          rintro _ w ⟨qo82, co82, rfl, hH⟩
          refine ⟨_, rfl, fun a hF => J.of hF hH ?_⟩
          refine J.nil ?_
          refine EJ.still ?_
          refine JS.op (PR.fieldV u29 rfl pl27 rfl rfl) rfl ?_
          refine JS.op (PR.lenSlice u27 rfl rfl) rfl ?_
          refine JS.op (PR.gtr rfl rfl) rfl ?_
          refine JS.nil ?_
          refine EJ.thenN (hK23 ?_)
          refine CJ.condD rfl (fun h85 => ?_) (fun h85 => ?_)
          ·
            refine CJ.seq fun _ hK24 _ => ?_
            refine CJ.region ?_
            refine J.p (PR.assign rfl) rfl ?_
            refine J.nil ?_
            refine EJ.thenN (hK24 ?_)
            refine CJ.ret ?_
            refine EJ.inR ?_
            refine EJ.thenR ?_
            refine EJ.thenR ?_
            refine EJ.inR ?_
            refine EJ.thenR ?_
            refine EJ.ret1 rfl (Res.tmp rfl) fun w hH => ?_
            replace hH := hH.tail
            replace hH := hH.tail
            exact ⟨rb (by unfold isAlg; rw [noD_bad (i := k) (by omega) (by rw [ofS_len] at h85; omega)]; simp), hH⟩
          ·
            refine CJ.skip ?_
            refine EJ.inN ?_
            refine EJ.thenN (hK22 ?_)
            refine CJ.region ?_
            refine J.p (PR.move rfl) rfl ?_
            refine J.p (PR.add rfl rfl (by first | exact nw _ (by omega) | rfl)) rfl ?_
            refine J.p (PR.assign rfl) rfl ?_
            refine J.nil ?_
            refine EJ.thenN ?_
            refine EJ.drop .z ?_
            exact hAg1 (k + 1) ⟨by omega, upto hJ (by rw [ofS_len] at h85; omega)⟩ (by omega) 19 rfl rfl ⟨rfl, trivial⟩ rfl rfl
        ·
          refine CJ.exit ?_
          refine EJ.thenE ?_
          refine EJ.thenE ?_
          refine EJ.inE ?_
          refine EJ.thenN (hK18 ?_)
          refine CJ.seq fun _ hK25 _ => ?_
          refine CJ.region ?_
          refine J.p (PR.assign rfl) rfl ?_
          refine J.nil ?_
          refine EJ.thenN (hK25 ?_)
          refine CJ.ret ?_
          refine EJ.ret1 rfl (Res.tmp rfl) fun w hH => ?_
          replace hH := hH.tail
          exact ⟨rb (by unfold isAlg; rw [hD, decide_eq_true hlen, hM9, noD_good (fun j hj => hJ j (by omega))]; rfl), hH⟩

def noDf (ds : List Int) (fs : List (List Term)) (ts : List Term) : Bool := decide ((dS ds fs (toS ts)).length > 0)
theorem noD_any {ds : List Int} {fs : List (List Term)} : noD ds fs = !(fs.any (noDf ds fs)) := by
  cases h : fs.any (noDf ds fs) with
  | true =>
    obtain ⟨x, hx, hp⟩ := List.any_eq_true.1 h
    obtain ⟨j, hj, rfl⟩ := List.mem_iff_getElem.1 hx
    rw [fm_eq hj] at hp
    rw [noD_bad hj (by unfold noDf at hp; have := of_decide_eq_true hp; omega)]
    rfl
  | false =>
    rw [noD_good fun j hj => by
      have := List.any_eq_false.1 h _ (fm_mem hj)
      unfold noDf at this
      rw [decide_eq_true_eq] at this
      omega]
    rfl

set_option maxRecDepth 10000 in
theorem IsAlgebra1_c {B : World} {H0 H : HP} {L : List SA} {w : World} {qts : Option Addr} {cts : Nat} {ts : List Term} {ba : Nat} {qad qaf : Option Addr} {cad caf : Nat} {ad : List Int} {af : List (List Term)} {Mi Ms : Int} (hts : Terms H qts ts) (pad : CellAt H ba 0 (.slice qad ad.length cad)) (paf : CellAt H ba 1 (.slice qaf af.length caf)) (had : Ints H qad ad) (haf : Forms H qaf af) (hn : ad.length ≤ 8) (hd : ∀ j, 0 ≤ ad.getD j 0 ∧ ad.getD j 0 ≤ 12) (hf : Fok Mi af) (hl : af.length = ad.length) (hs : Sok Ms (toS ts)) (ho : Occ af.length (toS ts)) (hM : 0 ≤ Mi ∧ Ms + Mi + Ms ≤ 1000000) (hll : ts.length ≤ 1000000000) (hH : Hp B H0 H L w) :
    Calls Try.prog 94 [.agg [.slice qts ts.length cts].toArray, .pointer (some ⟨ba, 0, none⟩)].toArray w fun e w' => e = .returned (.bool (noDf ad af ts)) ∧ Hp B H0 H L w' := by
  refine CJ.enter Try.func94 rfl 9 rfl rfl [(0, .agg [.slice qts ts.length cts].toArray), (1, .pointer (some ⟨ba, 0, none⟩))] rfl hH ?_
  clear hH
  refine CJ.seq fun _ hK1 _ => ?_
  refine CJ.region ?_
  refine J.box rfl rfl rfl fun g2 => ?_
  refine J.p (PR.assign rfl) rfl ?_
  refine J.nil ?_
  refine EJ.thenN (hK1 ?_)
  refine CJ.seq fun _ hK2 _ => ?_
  refine CJ.region ?_
  refine J.p (PR.loadAll rfl At.z (by simpa [*] using ag29)) rfl ?_
  refine J.call fn96 rfl rfl fun w hH => (sumOf_c hts hs (by omega) hH).mono ?_
  rintro _ w ⟨bo5, rfl, hH⟩
  refine ⟨_, rfl, fun a hF => J.of hF hH ?_⟩
  refine J.call fn95 rfl rfl fun w hH => hH.lend .z fun Hl1 hle1 hA1 hB1 hH => (d_c (pad.le hle1) (paf.le hle1) (had.le hle1) (haf.le hle1) (omap_H hA1) hs hn hd hf hl ho hM hH).mono ?_
  rintro _ w ⟨bo6, rfl, hH⟩
  replace hH := hB1 _ _ hH
  refine ⟨_, rfl, fun a hF => J.of hF hH ?_⟩
  refine J.p (PR.lenO u107 rfl (.s .z) rfl) rfl ?_
  refine J.p (PR.gtr rfl rfl) rfl ?_
  refine J.p (PR.assign rfl) rfl ?_
  refine J.nil ?_
  refine EJ.thenN (hK2 ?_)
  refine CJ.ret ?_
  refine EJ.ret1 rfl (Res.tmp rfl) fun w hH => ?_
  replace hH := hH.tail
  replace hH := hH.tail
  replace hH := hH.tail
  exact ⟨rb (by unfold noDf; exact decide_eq_decide.2 (by omega)), hH⟩
set_option maxHeartbeats 4000000 in
set_option maxRecDepth 10000 in
theorem IsAlgebra_c {B : World} {H0 H : HP} {L : List SA} {w : World} {qad qaf : Option Addr} {cad caf : Nat} {ad : List Int} {af : List (List Term)}  (had : Ints H qad ad) (haf : Forms H qaf af) (hn8 : ad.length ≤ 1048576) (hn9 : af.length ≤ 1048576) (hl9 : ∀ i, i < af.length → (fm af i).length ≤ 1048576) (hH : Hp B H0 H L w) :
    Calls Try.prog 36 [.agg [.slice qad ad.length cad, .slice qaf af.length caf].toArray].toArray w fun e w' => e = .returned (.bool (isAlg ad af)) ∧ Hp B H0 H L w' := by
  refine CJ.enter Try.func36 rfl 50 rfl rfl [(0, .agg [.slice qad ad.length cad, .slice qaf af.length caf].toArray)] rfl hH ?_
  have hw0 := hH.old
  have hw1 := hH.le
  clear hH
  refine CJ.seq fun _ hK1 _ => ?_
  refine CJ.region ?_
  refine J.box rfl rfl rfl fun g1 => ?_
  refine J.p (PR.assign rfl) rfl ?_
  refine J.nil ?_
  refine EJ.thenN (hK1 ?_)
  refine CJ.seq fun _ hK2 _ => ?_
  refine CJ.seq fun _ hK3 _ => ?_
  refine CJ.region ?_
  refine J.p (PR.fldA u41 rfl sz22 rfl) rfl ?_
  refine J.p (PR.load rfl At.z rfl pl22) rfl ?_
  refine J.call fn90 rfl rfl fun w hH => (AreDegrees_c had (by omega) hH).mono ?_
  rintro _ w ⟨rfl, hH⟩
  refine ⟨_, rfl, fun a hF => J.of hF hH ?_⟩
  refine J.p (PR.not rfl) rfl ?_
  refine J.p (PR.move rfl) rfl ?_
  refine J.splitB (jd := 9) rfl (fun hg9 => ?_) (fun hg9 => ?_)
  ·
    try have hg9p := of_decide_eq_true hg9
    refine J.gn rfl rfl rfl hg9 ?_
    refine J.gn rfl rfl rfl hg9 ?_
    refine J.gn rfl rfl rfl hg9 ?_
    refine J.gn rfl rfl rfl hg9 ?_
    refine J.gn rfl rfl rfl hg9 ?_
    refine J.gn rfl rfl rfl hg9 ?_
    refine J.gn rfl rfl rfl hg9 ?_
    refine J.p (PR.pickT rfl hg9 rfl) rfl ?_
    refine J.nil ?_
    refine EJ.thenN (hK3 ?_)
    refine CJ.condT rfl ?_
    refine CJ.seq fun _ hK4 _ => ?_
    refine CJ.region ?_
    refine J.p (PR.assign rfl) rfl ?_
    refine J.nil ?_
    refine EJ.thenN (hK4 ?_)
    refine CJ.ret ?_
    refine EJ.thenR ?_
    refine EJ.ret1 rfl (Res.tmp rfl) fun w hH => ?_
    replace hH := hH.tail
    exact ⟨rb (by unfold isAlg; rw [show isDeg ad = false by simpa using hg9]; rfl), hH⟩
  ·
    try have hg9p := of_decide_eq_false hg9
    refine J.gy (PR.fldA u41 rfl sz39 rfl) rfl rfl rfl hg9 ?_
    refine J.gy (PR.load rfl At.z rfl pl39) rfl rfl rfl hg9 ?_
    refine J.gy (PR.lenSlice u39 rfl rfl) rfl rfl rfl hg9 ?_
    refine J.gy (PR.fldA u41 rfl sz22 rfl) rfl rfl rfl hg9 ?_
    refine J.gy (PR.load rfl At.z rfl pl22) rfl rfl rfl hg9 ?_
    refine J.gy (PR.lenSlice u22 rfl rfl) rfl rfl rfl hg9 ?_
    refine J.gy (PR.neq rfl rfl) rfl rfl rfl hg9 ?_
    refine J.p (PR.pickF rfl hg9 rfl) rfl ?_
    refine J.nil ?_
    refine EJ.thenN (hK3 ?_)
    refine CJ.condD rfl (fun hc19 => ?_) (fun hc19 => ?_)
    ·
      refine CJ.seq fun _ hK5 _ => ?_
      refine CJ.region ?_
      refine J.p (PR.assign rfl) rfl ?_
      refine J.nil ?_
      refine EJ.thenN (hK5 ?_)
      refine CJ.ret ?_
      refine EJ.thenR ?_
      refine EJ.ret1 rfl (Res.tmp rfl) fun w hH => ?_
      replace hH := hH.tail
      exact ⟨rb (by unfold isAlg; rw [decide_eq_false (show ¬ af.length = ad.length by omega)]; simp), hH⟩
    ·
      have hD : isDeg ad = true := by simpa using hg9
      have hn := isDeg_len hD
      have hd := isDeg_bd hD
      have hlen : af.length = ad.length := by omega
      have hpos9 : ∀ j, j < ad.length → 0 ≤ ad.getD j 0 := fun j _ => (hd j).1
      refine CJ.skip ?_
      refine EJ.thenN (hK2 ?_)
      refine CJ.seq fun _ hK6 _ => ?_
      refine CJ.seq fun _ hK7 _ => ?_
      refine CJ.region ?_
      refine J.p (PR.fldA u41 rfl sz39 rfl) rfl ?_
      refine J.p (PR.load rfl At.z rfl pl39) rfl ?_
      refine J.p (PR.lenSlice u39 rfl rfl) rfl ?_
      refine J.p (PR.move rfl) rfl ?_
      refine J.nil ?_
      refine EJ.thenN (hK7 ?_)
      refine CJ.block ?_
      refine CJ.loopU (σ := Nat) (fun (k : Nat) => [(21, .int .i64 (k : Int))]) (fun (k : Nat) => H) (fun (k : Nat) => obj g1 (.cells [.slice qad ad.length cad, .slice qaf af.length caf].toArray 41 (0, 0)) :: L) (fun (k : Nat) => k ≤ af.length ∧ ∀ j, j < k → imOk ad af j = true) (fun (k : Nat) => af.length - k) 0 ⟨by omega, fun j hj => by omega⟩ ⟨rfl, trivial⟩ rfl rfl ?_
      rintro k ⟨hk, hI⟩ _ hAg0
      refine CJ.seq fun _ hK8 _ => ?_
      refine CJ.region ?_
      refine J.p (PR.lss rfl rfl) rfl ?_
      refine J.nil ?_
      refine EJ.thenN (hK8 ?_)
      refine CJ.seq fun _ hK9 _ => ?_
      refine CJ.condD rfl (fun hc24 => ?_) (fun hc24 => ?_)
      ·
        have hl0 := hl9 k (by omega)
        have hdi := hd k
        refine CJ.skip ?_
        refine EJ.thenN (hK9 ?_)
        refine CJ.seq fun _ hK10 _ => ?_
        refine CJ.block ?_
        refine CJ.seq fun _ hK11 _ => ?_
        refine CJ.region ?_
        refine J.p (PR.move rfl) rfl ?_
        refine J.p (PR.idx1 u39 sz29 rfl rfl rfl (by omega) haf.sm) rfl ?_
        obtain ⟨qe25, ce25, he25, le25, Fe25⟩ := haf k (by omega)
        refine J.p (PR.loadHagg (cs := [_]) rfl (one_cell he25) (haf.sm (i := k) (by omega)) ag29) rfl ?_
        refine J.alloc ze29 rfl fun g4 => ?_
        refine J.p (PR.assign rfl) rfl ?_
        refine J.storeAll rfl rfl (by first | exact bytesC_one _ | exact intsC_one _ | exact Term.c_one _ | simp [Value.oneCell']) (by simpa [*] using sz29) (by simp [*]) At.z ?_
        refine J.nil ?_
        refine EJ.thenN (hK11 ?_)
        refine CJ.seq fun _ hK12 _ => ?_
        refine CJ.head [[], [0], [], [1, 2], [3], [4], [5], [6, 5], [5], [5], [9, 5], [5], [10, 11, 5], [12, 5], [13, 5]] (by kernel_rfl) ?_
        refine HJ.op (fun gh => PR.fldA u41 rfl sz22 rfl) ?_
        refine HJ.op (fun gh => PR.load rfl (.s .z) rfl pl22) ?_
        refine HJ.op (fun gh => PR.loadAll rfl At.z (by simpa [*] using ag29)) ?_
        refine HJ.call fn91 (fun gh => rfl) (fun w X hH => isForm_c had Fe25 (by omega) (by omega) hH) ?_
        refine HJ.op (fun gh => PR.not rfl) ?_
        refine HJ.op (fun gh => PR.move rfl) ?_
        refine HJ.splitB 5 rfl (fun h31 => ?_) (fun h31 => ?_)
        ·
          try have h31p := of_decide_eq_true h31
          refine HJ.gn rfl (fun gh => rfl) h31 ?_
          refine HJ.gn rfl (fun gh => rfl) h31 ?_
          refine HJ.gn rfl (fun gh => rfl) h31 ?_
          refine HJ.gn rfl (fun gh => rfl) h31 ?_
          refine HJ.gn rfl (fun gh => rfl) h31 ?_
          refine HJ.gn rfl (fun gh => rfl) h31 ?_
          refine HJ.gn rfl (fun gh => rfl) h31 ?_
          refine HJ.gn rfl (fun gh => rfl) h31 ?_
          refine HJ.gn rfl (fun gh => rfl) h31 ?_
          refine HJ.close 15 1 foll0 (by kernel_rfl) rfl rfl fun gh => ?_
          refine J.conv (us' := (26, _) :: (27, _) :: (28, _) :: (29, _) :: (30, _) :: (31, _) :: (32, _) :: (33, _) :: (34, _) :: (35, _) :: (36, _) :: (37, _) :: (38, _) :: (39, _) :: (40, _) :: _) (L' := _) rfl rfl ?_
          refine J.gn rfl rfl rfl h31 ?_
          refine J.nil ?_
          refine EJ.still ?_
          refine JS.gn rfl rfl rfl h31 ?_
          refine JS.op (PR.pickT rfl h31 rfl) rfl ?_
          refine JS.nil ?_
          refine EJ.thenN (hK12 ?_)
          refine CJ.condT rfl ?_
          refine CJ.seq fun _ hK13 _ => ?_
          refine CJ.region ?_
          refine J.p (PR.assign rfl) rfl ?_
          refine J.nil ?_
          refine EJ.thenN (hK13 ?_)
          refine CJ.ret ?_
          refine EJ.inR ?_
          refine EJ.thenR ?_
          refine EJ.thenR ?_
          refine EJ.inR ?_
          refine EJ.thenR ?_
          refine EJ.ret1 rfl (Res.tmp rfl) fun w hH => ?_
          replace hH := hH.tail
          replace hH := hH.tail
          exact ⟨rb (by unfold isAlg; rw [imsOk_bad (i := k) (by omega) (imOk_no1 (by simpa using h31))]; simp), hH⟩
        ·
          try have h31p := of_decide_eq_false h31
          refine HJ.gy (fun gh => PR.fldA u41 rfl sz22 rfl) rfl (fun gh => rfl) h31 ?_
          refine HJ.gy (fun gh => PR.load rfl (.s .z) rfl pl22) rfl (fun gh => rfl) h31 ?_
          refine HJ.gy (fun gh => PR.loadAll rfl At.z (by simpa [*] using ag29)) rfl (fun gh => rfl) h31 ?_
          refine HJ.gy (fun gh => PR.fldA u41 rfl sz22 rfl) rfl (fun gh => rfl) h31 ?_
          refine HJ.gy (fun gh => PR.load rfl (.s .z) rfl pl22) rfl (fun gh => rfl) h31 ?_
          refine HJ.gy (fun gh => PR.move rfl) rfl (fun gh => rfl) h31 ?_
          refine HJ.gy (fun gh => PR.idx1 u22 sz2 rfl rfl rfl (by omega) had.sm) rfl (fun gh => rfl) h31 ?_
          refine HJ.gy (fun gh => PR.loadH rfl (had _ (by omega)) pl2) rfl (fun gh => rfl) h31 ?_
          refine HJ.gy (fun gh => PR.add rfl rfl (by first | exact nw _ (by omega) | rfl)) rfl (fun gh => rfl) h31 ?_
          refine HJ.close 15 1 foll0 (by kernel_rfl) rfl rfl fun gh => ?_
          refine J.conv (us' := (26, _) :: (27, _) :: (28, _) :: (29, _) :: (30, _) :: (31, _) :: (32, _) :: (33, _) :: (34, _) :: (35, _) :: (36, _) :: (37, _) :: (38, _) :: (39, _) :: (40, _) :: _) (L' := _) rfl rfl ?_
          refine J.gcall fn92 rfl rfl h31 rfl rfl fun w hH => (isOfDegree_c had Fe25 hn hd (by omega) hH).mono ?_
          rintro _ w ⟨rfl, hH⟩
          refine ⟨_, rfl, fun a hF => J.of hF hH ?_⟩
          refine J.nil ?_
          refine EJ.still ?_
          refine JS.gy (PR.not rfl) rfl rfl rfl h31 ?_
          refine JS.op (PR.pickF rfl h31 rfl) rfl ?_
          refine JS.nil ?_
          refine EJ.thenN (hK12 ?_)
          refine CJ.cond rfl (fun h43 => ?_) (fun h43 => ?_)
          ·
            refine CJ.seq fun _ hK14 _ => ?_
            refine CJ.region ?_
            refine J.p (PR.assign rfl) rfl ?_
            refine J.nil ?_
            refine EJ.thenN (hK14 ?_)
            refine CJ.ret ?_
            refine EJ.inR ?_
            refine EJ.thenR ?_
            refine EJ.thenR ?_
            refine EJ.inR ?_
            refine EJ.thenR ?_
            refine EJ.ret1 rfl (Res.tmp rfl) fun w hH => ?_
            replace hH := hH.tail
            replace hH := hH.tail
            exact ⟨rb (by unfold isAlg; rw [imsOk_bad (i := k) (by omega) (by unfold imOk; rw [show degOk ad (fm af k) (ad.getD k 0 + 1) = false by simpa using h43]; simp)]; simp), hH⟩
          ·
            refine CJ.skip ?_
            refine EJ.inN ?_
            refine EJ.thenN (hK10 ?_)
            refine CJ.region ?_
            refine J.p (PR.add rfl rfl (by first | exact nw _ (by omega) | rfl)) rfl ?_
            refine J.p (PR.move rfl) rfl ?_
            refine J.nil ?_
            refine EJ.thenN ?_
            refine EJ.drop .z ?_
            exact hAg0 (k + 1) ⟨by omega, upto hI (by unfold imOk; rw [show isForm ad (fm af k) = true by simpa using h31, show degOk ad (fm af k) (ad.getD k 0 + 1) = true by simpa using h43]; rfl)⟩ (by omega) 27 rfl rfl ⟨rfl, trivial⟩ rfl rfl
      ·
        have hM9 := imsOk_good (ds := ad) (fs := af) (fun j hj => hI j (by omega))
        have hA := AlgOk.of hD hlen hM9 haf.wfss
        refine CJ.exit ?_
        refine EJ.thenE ?_
        refine EJ.thenE ?_
        refine EJ.inE ?_
        refine EJ.thenN (hK6 ?_)
        refine CJ.seq fun _ hK15 _ => ?_
        refine CJ.region ?_
        refine J.p (PR.fldA u41 rfl sz39 rfl) rfl ?_
        refine J.p (PR.load rfl At.z rfl pl39) rfl ?_
        refine J.p (PR.makeFunc (ys := []) (zs := [_]) rfl rfl) rfl ?_
        refine J.freezeRow .z fun H3 hle3 hc3 => ?_
        have had3 := had.le hle3
        have haf3 := haf.le hle3
        have hcl : ClF B H0 H3 94 #[.pointer (some ⟨g1, 0, none⟩)] (fun ts => isForm ad ts = true ∧ Wfs ts) (noDf ad af) := fun H' L w q c x hle hS hx hH => IsAlgebra1_c (Mi := 20) (Ms := 20) hx (CellAt.le (hc3 0 _ rfl) hle) (CellAt.le (hc3 1 _ rfl) hle) (had3.le hle) (haf3.le hle) hn hd hA.fok hA.hl (isForm_sok hS.2 hS.1) (Ex.occ (isForm_kex hd hn hS.2 hS.1) hA.hl) (by omega) (by have := isForm_len4 hS.1; omega) hH
        refine J.call fn93 rfl rfl fun w hH => (ContainsFuncF_c haf3 fn94 hcl (by omega) (fun i hi => ⟨hA.ok i hi, hA.wf.fm i⟩) hH).mono ?_
        rintro _ w ⟨rfl, hH⟩
        refine ⟨_, rfl, fun a hF => J.of hF hH ?_⟩
        refine J.p (PR.not rfl) rfl ?_
        refine J.p (PR.assign rfl) rfl ?_
        refine J.nil ?_
        refine EJ.thenN (hK15 ?_)
        refine CJ.ret ?_
        refine EJ.ret1 rfl (Res.tmp rfl) fun w hH => ?_
        exact ⟨rb (by unfold isAlg; rw [hD, decide_eq_true hlen, hM9, noD_any]; rfl), hH.weaken hle3 hw0 hw1⟩
end Go.Proofs.Ytpojpokldncglaa.G
