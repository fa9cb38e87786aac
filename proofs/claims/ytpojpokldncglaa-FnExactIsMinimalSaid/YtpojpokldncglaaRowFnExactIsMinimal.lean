/- The row: the law answers true whatever the input, and the input reads as it did. No condition. -/
import Derived.Test.YtpojpokldncglaaRows
import Derived.Test.YtpojpokldncglaaProg
import Derived.WalkKit
import Derived.KernelRfl
import Derived.JoinedOf
import Derived.Maps.AppendAt
import Derived.Still
import Derived.ProofKit
import Derived.OpenShut
import Derived.StillTail
import Derived.Deep.Upon
import Derived.WalkSpells
import Derived.Maps.Range
import Derived.DeepKeys4
import Derived.ChangeOld
import Derived.Below
import Derived.SizedLaws
import Derived.Test.YtpojpokldncglaaPMinf
set_option linter.unusedVariables false
set_option linter.unusedSimpArgs false
namespace Go.Proofs.Ytpojpokldncglaa.G
open Go Go.RowKit
namespace Xt
theorem u114 : Try.prog.underlying 114 = some (TypeDesc.pointer 41) := by kernel_rfl
theorem u22 : Try.prog.underlying 22 = some (TypeDesc.slice 2) := by kernel_rfl
theorem u27 : Try.prog.underlying 27 = some (TypeDesc.slice 88) := by kernel_rfl
theorem u29 : Try.prog.underlying 29 = some (TypeDesc.struct #[{ name := "Terms", type := 27, offset := 0, embedded := false, tag := "", pkgPath := "", byteOffset := 0 }]) := by kernel_rfl
theorem u39 : Try.prog.underlying 39 = some (TypeDesc.slice 29) := by kernel_rfl
theorem u41 : Try.prog.underlying 41 = some (TypeDesc.struct #[{ name := "Degrees", type := 22, offset := 0, embedded := false, tag := "", pkgPath := "", byteOffset := 0 }, { name := "Images", type := 39, offset := 1, embedded := false, tag := "", pkgPath := "", byteOffset := 24 }]) := by kernel_rfl
theorem sz22 : Size Try.prog 22 1 := by unfold Size; kernel_rfl
theorem sz29 : Size Try.prog 29 1 := by unfold Size; kernel_rfl
theorem ze29 : Zero Try.prog 29 [.slice none 0 0] := by unfold Zero; kernel_rfl
theorem pl114 : Plain Try.prog 114 := ⟨_, u114, rfl⟩
theorem pl22 : Plain Try.prog 22 := ⟨_, u22, rfl⟩
theorem pl27 : Plain Try.prog 27 := ⟨_, u27, rfl⟩
theorem ag29 : Agg Try.prog 29 1 := ⟨_, u29, rfl, by kernel_rfl⟩
theorem ag41 : Agg Try.prog 41 2 := ⟨_, u41, rfl, by kernel_rfl⟩
theorem fn101 : Fn Try.prog 101 := ⟨_, Try.func101, by kernel_rfl, rfl⟩
theorem fn152 : Fn Try.prog 152 := ⟨_, Try.func152, by kernel_rfl, rfl⟩
theorem fn36 : Fn Try.prog 36 := ⟨_, Try.func36, by kernel_rfl, rfl⟩
theorem fn75 : Fn Try.prog 75 := ⟨_, Try.func75, by kernel_rfl, rfl⟩
theorem fn91 : Fn Try.prog 91 := ⟨_, Try.func91, by kernel_rfl, rfl⟩
theorem fn93 : Fn Try.prog 93 := ⟨_, Try.func93, by kernel_rfl, rfl⟩
theorem fn98 : Fn Try.prog 98 := ⟨_, Try.func98, by kernel_rfl, rfl⟩
theorem fn99 : Fn Try.prog 99 := ⟨_, Try.func99, by kernel_rfl, rfl⟩
theorem foll0 : Try.prog.follows .mixedOrders = true := by kernel_rfl
end Xt
open Xt
def codeA (ds : List Int) (fs : List (List Term)) (gs : List (List Term)) : Int := if isAlg ds fs && gs.all (isForm ds) then 0 else 1
theorem any_no {ds : List Int} : ∀ gs : List (List Term), (gs.any fun ts => !(isForm ds ts)) = !(gs.all (isForm ds))
  | [] => rfl
  | g :: gs => by simp only [List.any_cons, List.all_cons, any_no gs, Bool.not_and]
set_option maxRecDepth 10000 in
theorem algebraCode1_c {B : World} {H0 H : HP} {L : List SA} {w : World} {qts : Option Addr} {cts : Nat} {ts : List Term} {bba : Nat} {ba : Nat} {qad qaf : Option Addr} {cad caf : Nat} {ad : List Int} {af : List (List Term)}  (hts : Terms H qts ts) (kba : cellO H (some ⟨bba, 0, none⟩) 0 = some (.pointer (some ⟨ba, 0, none⟩))) (pad : CellAt H ba 0 (.slice qad ad.length cad)) (paf : CellAt H ba 1 (.slice qaf af.length caf)) (had : Ints H qad ad) (haf : Forms H qaf af) (hn8 : ad.length ≤ 1048576) (hlt : ts.length ≤ 9223372036854775807) (hH : Hp B H0 H L w) :
    Calls Try.prog 152 [.agg [.slice qts ts.length cts].toArray, .pointer (some ⟨bba, 0, none⟩)].toArray w fun e w' => e = .returned (.bool (!(isForm ad ts))) ∧ Hp B H0 H L w' := by
  refine CJ.enter Try.func152 rfl 11 rfl rfl [(0, .agg [.slice qts ts.length cts].toArray), (1, .pointer (some ⟨bba, 0, none⟩))] rfl hH ?_
  clear hH
  refine CJ.seq fun _ hK1 _ => ?_
  refine CJ.region ?_
  refine J.box rfl rfl rfl fun g2 => ?_
  refine J.p (PR.assign rfl) rfl ?_
  refine J.nil ?_
  refine EJ.thenN (hK1 ?_)
  refine CJ.seq fun _ hK2 _ => ?_
  refine CJ.head [[], [0], [1], [2], []] (by kernel_rfl) ?_
  refine HJ.op (fun gh => PR.loadH (q := some ⟨bba, 0, none⟩) (k := 0) rfl kba pl114) ?_
  refine HJ.op (fun gh => PR.nilCheck rfl) ?_
  refine HJ.op (fun gh => PR.fldA u41 rfl sz22 rfl) ?_
  refine HJ.op (fun gh => PR.loadH (q := some ⟨ba, 0, none⟩) (k := 0) rfl pad pl22) ?_
  refine HJ.op (fun gh => PR.loadAll rfl At.z (by simpa [*] using ag29)) ?_
  refine HJ.close 5 1 foll0 (by kernel_rfl) rfl rfl fun gh => ?_
  refine J.conv (us' := (4, _) :: (5, _) :: (6, _) :: (7, _) :: (8, _) :: _) (L' := _) rfl rfl ?_
  refine J.call fn91 rfl rfl fun w hH => (isForm_c had hts hn8 hlt hH).mono ?_
  rintro _ w ⟨rfl, hH⟩
  refine ⟨_, rfl, fun a hF => J.of hF hH ?_⟩
  refine J.nil ?_
  refine EJ.still ?_
  refine JS.op (PR.not rfl) rfl ?_
  refine JS.op (PR.assign rfl) rfl ?_
  refine JS.nil ?_
  refine EJ.thenN (hK2 ?_)
  refine CJ.ret ?_
  refine EJ.ret1 rfl (Res.tmp rfl) fun w hH => ?_
  replace hH := hH.tail
  exact ⟨rfl, hH⟩
set_option maxRecDepth 10000 in
theorem algebraCode_c {B : World} {H0 H : HP} {L : List SA} {w : World} {ba : Nat} {qad qaf : Option Addr} {cad caf : Nat} {ad : List Int} {af : List (List Term)} {qfs : Option Addr} {cfs : Nat} {fs : List (List Term)}  (pad : CellAt H ba 0 (.slice qad ad.length cad)) (paf : CellAt H ba 1 (.slice qaf af.length caf)) (had : Ints H qad ad) (haf : Forms H qaf af) (hfs : Forms H qfs fs) (hn8 : ad.length ≤ 1048576) (hn9 : af.length ≤ 1048576) (hl9 : ∀ i, i < af.length → (fm af i).length ≤ 1048576) (hnf : fs.length ≤ 9223372036854775807) (hlf : ∀ i, i < fs.length → (fm fs i).length ≤ 9223372036854775807) (hH : Hp B H0 H L w) :
    Calls Try.prog 99 [.pointer (some ⟨ba, 0, none⟩), .slice qfs fs.length cfs].toArray w fun e w' => e = .returned (.int .i64 (codeA ad af fs)) ∧ Hp B H0 H L w' := by
  refine CJ.enter Try.func99 rfl 18 rfl rfl [(0, .pointer (some ⟨ba, 0, none⟩)), (1, .slice qfs fs.length cfs)] rfl hH ?_
  have hw0 := hH.old
  have hw1 := hH.le
  clear hH
  refine CJ.seq fun _ hK1 _ => ?_
  refine CJ.region ?_
  refine J.box rfl rfl rfl fun g2 => ?_
  refine J.p (PR.assign rfl) rfl ?_
  refine J.nil ?_
  refine EJ.thenN (hK1 ?_)
  refine CJ.seq fun _ hK2 _ => ?_
  refine CJ.region ?_
  refine J.p (PR.load rfl At.z rfl pl114) rfl ?_
  refine J.p (PR.nilCheck rfl) rfl ?_
  refine J.p (PR.loadHb rfl pad paf ag41) rfl ?_
  refine J.call fn36 rfl rfl fun w hH => (IsAlgebra_c had haf hn8 hn9 hl9 hH).mono ?_
  rintro _ w ⟨rfl, hH⟩
  refine ⟨_, rfl, fun a hF => J.of hF hH ?_⟩
  refine J.p (PR.not rfl) rfl ?_
  refine J.p (PR.move rfl) rfl ?_
  refine J.splitB (jd := 11) rfl (fun h11 => ?_) (fun h11 => ?_)
  ·
    try have h11p := of_decide_eq_true h11
    refine J.gn rfl rfl rfl h11 ?_
    refine J.gn rfl rfl rfl h11 ?_
    refine J.gn rfl rfl rfl h11 ?_
    refine J.p (PR.pickT rfl h11 rfl) rfl ?_
    refine J.p (PR.assign rfl) rfl ?_
    refine J.nil ?_
    refine EJ.thenN (hK2 ?_)
    refine CJ.seq fun _ hK3 _ => ?_
    refine CJ.region ?_
    refine J.p (PR.move rfl) rfl ?_
    refine J.call fn75 rfl rfl fun w hH => (when_c  hH).mono ?_
    rintro _ w ⟨rfl, hH⟩
    refine ⟨_, rfl, fun a hF => J.of hF hH ?_⟩
    refine J.p (PR.assign rfl) rfl ?_
    refine J.nil ?_
    refine EJ.thenN (hK3 ?_)
    refine CJ.ret ?_
    refine EJ.ret1 rfl (Res.tmp rfl) fun w hH => ?_
    replace hH := hH.tail
    exact ⟨ri (by unfold codeA; rw [show isAlg ad af = false by simpa using h11]; rfl), hH⟩
  ·
    try have h11p := of_decide_eq_false h11
    refine J.gy (PR.move rfl) rfl rfl rfl h11 ?_
    refine J.gy (PR.makeFunc (ys := []) (zs := [_]) rfl rfl) rfl rfl rfl h11 ?_
    refine J.freezeRow .z fun H3 hle3 hc3 => ?_
    have hfs3 := hfs.le hle3
    have hcl : ClF B H0 H3 152 #[.pointer (some ⟨g2, 0, none⟩)] (fun ts => ts.length ≤ 9223372036854775807) (fun ts => !(isForm ad ts)) := fun H' L w q c x hle hS hx hH => algebraCode1_c hx (cellO_le hle (hc3 0 _ rfl)) (pad.le (hle3.trans hle)) (paf.le (hle3.trans hle)) (had.le (hle3.trans hle)) (haf.le (hle3.trans hle)) hn8 hS hH
    refine J.gcall fn93 rfl rfl h11 rfl rfl fun w hH => (ContainsFuncF_c hfs3 fn152 hcl hnf hlf hH).mono ?_
    rintro _ w ⟨rfl, hH⟩
    refine ⟨_, rfl, fun a hF => J.of hF hH ?_⟩
    refine J.p (PR.pickF rfl h11 rfl) rfl ?_
    refine J.p (PR.assign rfl) rfl ?_
    refine J.nil ?_
    refine EJ.thenN (hK2 ?_)
    refine CJ.seq fun _ hK4 _ => ?_
    refine CJ.region ?_
    refine J.p (PR.move rfl) rfl ?_
    refine J.call fn75 rfl rfl fun w hH => (when_c  hH).mono ?_
    rintro _ w ⟨rfl, hH⟩
    refine ⟨_, rfl, fun a hF => J.of hF hH ?_⟩
    refine J.p (PR.assign rfl) rfl ?_
    refine J.nil ?_
    refine EJ.thenN (hK4 ?_)
    refine CJ.ret ?_
    refine EJ.ret1 rfl (Res.tmp rfl) fun w hH => ?_
    exact ⟨ri (by unfold codeA; rw [show isAlg ad af = true by simpa using h11, any_no]; cases fs.all (isForm ad) <;> rfl), hH.weaken hle3 hw0 hw1⟩
theorem tup_bi {a b : Bool} {x y : Int} (h1 : a = b) (h2 : x = y) : Ending.returned (.tuple #[.bool a, .int .i64 x]) = .returned (.tuple #[.bool b, .int .i64 y]) := by rw [h1, h2]
end Go.Proofs.Ytpojpokldncglaa.G
namespace Go.Proofs.Ytpojpokldncglaa.G
open Go Go.RowKit
namespace Xu
theorem u22 : Try.prog.underlying 22 = some (TypeDesc.slice 2) := by kernel_rfl
theorem u62 : Try.prog.underlying 62 = some (TypeDesc.slice 22) := by kernel_rfl
theorem sz22 : Size Try.prog 22 1 := by unfold Size; kernel_rfl
theorem pl22 : Plain Try.prog 22 := ⟨_, u22, rfl⟩
theorem fn24 : Fn Try.prog 24 := ⟨_, Try.func24, by kernel_rfl, rfl⟩
theorem foll0 : Try.prog.follows .mixedOrders = true := by kernel_rfl
end Xu
open Xu
end Go.Proofs.Ytpojpokldncglaa.G
namespace Go.Proofs.Ytpojpokldncglaa.G
open Go Go.RowKit
namespace Xv
theorem u107 : Try.prog.underlying 107 = some (TypeDesc.map 94 2) := by kernel_rfl
theorem u22 : Try.prog.underlying 22 = some (TypeDesc.slice 2) := by kernel_rfl
theorem u29 : Try.prog.underlying 29 = some (TypeDesc.struct #[{ name := "Terms", type := 27, offset := 0, embedded := false, tag := "", pkgPath := "", byteOffset := 0 }]) := by kernel_rfl
theorem u94 : Try.prog.underlying 94 = some (TypeDesc.array 8 3) := by kernel_rfl
theorem sz2 : Size Try.prog 2 1 := by unfold Size; kernel_rfl
theorem sz3 : Size Try.prog 3 1 := by unfold Size; kernel_rfl
theorem sz94 : Size Try.prog 94 8 := by unfold Size; kernel_rfl
theorem by2 : Bytes Try.prog 2 8 := by unfold Bytes; kernel_rfl
theorem zv2 : ZeroV Try.prog 2 (.int .i64 0) := fun _ => by kernel_rfl
theorem ze2 : Zero Try.prog 2 [.int .i64 0] := by unfold Zero; kernel_rfl
theorem ze94 : Zero Try.prog 94 [.int .i64 0, .int .i64 0, .int .i64 0, .int .i64 0, .int .i64 0, .int .i64 0, .int .i64 0, .int .i64 0] := by unfold Zero; kernel_rfl
theorem bz94 : ∀ w, (Instr.build 94 #[]).run Try.prog w = .ok (.agg [.int .i64 0, .int .i64 0, .int .i64 0, .int .i64 0, .int .i64 0, .int .i64 0, .int .i64 0, .int .i64 0].toArray) w := fun _ => by kernel_rfl
theorem ag29 : Agg Try.prog 29 1 := ⟨_, u29, rfl, by kernel_rfl⟩
theorem ag94 : Agg Try.prog 94 8 := ⟨_, u94, rfl, by kernel_rfl⟩
theorem fn165 : Fn Try.prog 165 := ⟨_, Try.func165, by kernel_rfl, rfl⟩
theorem fn96 : Fn Try.prog 96 := ⟨_, Try.func96, by kernel_rfl, rfl⟩
end Xv
open Xv
def genP (i : Nat) : Pw := (List.replicate 8 (0 : Int)).set i 1
@[simp] theorem genP_len (i : Nat) : (genP i).length = 8 := by simp [genP]
theorem genP_get {i j : Nat} (hi : i < 8) : (genP i).getD j 0 = if i = j then 1 else 0 := by
  unfold genP
  rw [getD_set8]
  by_cases e : i = j
  · rw [if_pos ⟨e, by simpa using hi⟩, if_pos e]
  · rw [if_neg fun h => e h.1, if_neg e, List.getD_eq_getElem?_getD, List.getElem?_replicate]
    split <;> rfl
theorem genP_pok {i : Nat} (hi : i < 8) : Pok 1 (genP i) := ⟨by simp, fun j => by
  rw [genP_get hi]
  split <;> omega⟩
set_option maxRecDepth 10000 in
theorem generator_c {B : World} {H0 H : HP} {L : List SA} {w : World} {i : Nat}  (hi : i < 8) (hH : Hp B H0 H L w) :
    Calls Try.prog 165 [.int .i64 (i : Int)].toArray w fun e w' => e = .returned (.agg (intsC (genP i)).toArray) ∧ Hp B H0 H L w' := by
  refine CJ.enter Try.func165 rfl 8 rfl rfl [(0, .int .i64 (i : Int))] rfl hH ?_
  clear hH
  refine CJ.seq fun _ hK1 _ => ?_
  refine CJ.region ?_
  refine J.alloc ze94 rfl fun g2 => ?_
  refine J.nil ?_
  refine EJ.thenN (hK1 ?_)
  refine CJ.seq fun _ hK2 _ => ?_
  refine CJ.region ?_
  refine J.p (PR.buildZ bz94) rfl ?_
  refine J.alloc ze94 rfl fun g3 => ?_
  refine J.storeAll rfl rfl (by first | exact bytesC_one _ | exact intsC_one _ | exact Term.c_one _ | simp [Value.oneCell']) (by simpa [*] using sz94) (by simp [*]) At.z ?_
  refine J.nil ?_
  refine EJ.thenN (hK2 ?_)
  refine CJ.seq fun _ hK3 _ => ?_
  refine CJ.region ?_
  refine J.p (PR.move rfl) rfl ?_
  refine J.p (PR.idxA1 u94 sz3 rfl rfl rfl (by omega)) rfl ?_
  refine J.storeI (m := List.replicate 8 0) rfl rfl sz3 (by rw [List.length_replicate]; exact hi) .z ?_
  refine J.nil ?_
  refine EJ.thenN (hK3 ?_)
  refine CJ.seq fun _ hK4 _ => ?_
  refine CJ.region ?_
  refine J.p (PR.loadAll rfl At.z (by simpa using ag94)) rfl ?_
  refine J.storeAll rfl rfl (by first | exact bytesC_one _ | exact intsC_one _ | exact Term.c_one _ | simp [Value.oneCell']) (by simpa [*] using sz94) (by simp [*]) (.s .z) ?_
  refine J.nil ?_
  refine EJ.thenN (hK4 ?_)
  refine CJ.ret ?_
  refine EJ.ret1 rfl (Res.agg rfl (.s .z) (by simpa [*] using ag94)) fun w hH => ?_
  replace hH := hH.tail
  replace hH := hH.tail
  exact ⟨rfl, hH⟩
def linR (ds : Pw) (s : Sm) : List Int := (List.range ds.length).map fun k => cf s (genP k)
@[simp] theorem linR_len (ds : Pw) (s : Sm) : (linR ds s).length = ds.length := by simp [linR]
def linK (s : Sm) (k : Nat) : List Int := (List.range k).map fun k => cf s (genP k)
@[simp] theorem linK_len (s : Sm) (k : Nat) : (linK s k).length = k := by simp [linK]
theorem linK_succ (s : Sm) (k : Nat) : linK s (k + 1) = linK s k ++ [cf s (genP k)] := by simp [linK, List.range_succ]
set_option maxHeartbeats 2000000 in
set_option maxRecDepth 10000 in
theorem linearRow_c {B : World} {H0 H : HP} {L : List SA} {w : World} {qds : Option Addr} {cds : Nat} {ds : List Int} {qts : Option Addr} {cts : Nat} {ts : List Term} {M : Int} (hds : Ints H qds ds) (hts : Terms H qts ts) (hn : ds.length ≤ 8) (hs : Sok M (toS ts)) (hl : ts.length ≤ 9223372036854775807) (hH : Hp B H0 H L w) :
    Calls Try.prog 127 [.slice qds ds.length cds, .agg [.slice qts ts.length cts].toArray].toArray w fun e w' => ∃ q c, e = .returned (.slice q ds.length c) ∧ Hp B H0 H (own 2 1 q ds.length c (intsC (linR ds (toS ts))) :: L) w' := by
  refine CJ.enter Try.func127 rfl 25 rfl rfl [(0, .slice qds ds.length cds), (1, .agg [.slice qts ts.length cts].toArray)] rfl hH ?_
  clear hH
  refine CJ.seq fun _ hK1 _ => ?_
  refine CJ.region ?_
  refine J.box rfl rfl rfl fun g3 => ?_
  refine J.p (PR.assign rfl) rfl ?_
  refine J.nil ?_
  refine EJ.thenN (hK1 ?_)
  refine CJ.seq fun _ hK2 _ => ?_
  refine CJ.region ?_
  refine J.p (PR.loadAll rfl At.z (by simpa [*] using ag29)) rfl ?_
  refine J.call fn96 rfl rfl fun w hH => (sumOf_c hts hs (by omega) hH).mono ?_
  rintro _ w ⟨bo9, rfl, hH⟩
  refine ⟨_, rfl, fun a hF => J.of hF hH ?_⟩
  refine J.mk (MK.lit0I u22 sz2) rfl fun qo10 co10 => ?_
  refine J.p (PR.assign rfl) rfl ?_
  refine J.p (PR.assign rfl) rfl ?_
  refine J.nil ?_
  refine EJ.thenN (hK2 ?_)
  refine CJ.seq fun _ hK3 _ => ?_
  refine CJ.seq fun _ hK4 _ => ?_
  refine CJ.region ?_
  refine J.p (PR.move rfl) rfl ?_
  refine J.p (PR.lenSlice u22 rfl rfl) rfl ?_
  refine J.p (PR.move rfl) rfl ?_
  refine J.nil ?_
  refine EJ.thenN (hK4 ?_)
  refine CJ.block ?_
  refine CJ.loopU (σ := Option Addr × Nat × Nat) (fun ⟨q, c, k⟩ => [(13, .int .i64 (k : Int)), (6, .slice q (linK (toS ts) k).length c)]) (fun ⟨q, c, k⟩ => H) (fun ⟨q, c, k⟩ => own 2 1 q (linK (toS ts) k).length c (intsC (linK (toS ts) k)) :: osum bo9 (toS ts) :: obj g3 (.cells [.slice qts ts.length cts].toArray 29 (0, 0)) :: L) (fun ⟨q, c, k⟩ => k ≤ ds.length) (fun ⟨q, c, k⟩ => ds.length - k) (qo10, co10, 0) (by show 0 ≤ ds.length; omega) ⟨rfl, ⟨rfl, trivial⟩⟩ rfl rfl ?_
  rintro ⟨q, c, k⟩ hI _ hAg0
  have hk := hI
  have hol := linK_len (toS ts) k
  refine CJ.seq fun _ hK5 _ => ?_
  refine CJ.region ?_
  refine J.p (PR.lss rfl rfl) rfl ?_
  refine J.nil ?_
  refine EJ.thenN (hK5 ?_)
  refine CJ.seq fun _ hK6 _ => ?_
  refine CJ.condD rfl (fun hc14 => ?_) (fun hc14 => ?_)
  ·
    refine CJ.skip ?_
    refine EJ.thenN (hK6 ?_)
    refine CJ.seq fun _ hK7 _ => ?_
    refine CJ.block ?_
    refine CJ.seq fun _ hK8 _ => ?_
    refine CJ.region ?_
    refine J.p (PR.move rfl) rfl ?_
    refine J.p (PR.assign rfl) rfl ?_
    refine J.nil ?_
    refine EJ.thenN (hK8 ?_)
    refine CJ.region ?_
    refine J.p (PR.move rfl) rfl ?_
    refine J.p (PR.move rfl) rfl ?_
    refine J.p (PR.move rfl) rfl ?_
    refine J.call fn165 rfl rfl fun w hH => (generator_c (by omega) hH).mono ?_
    rintro _ w ⟨rfl, hH⟩
    refine ⟨_, rfl, fun a hF => J.of hF hH ?_⟩
    refine J.p (PR.sumO pwK u107 zv2 rfl (.s .z) rfl (pwOk_of (genP_pok (by omega)) (by omega))) rfl ?_
    refine J.mk (MK.lit1I u22 ze2 sz2 rfl) rfl fun qo21 co21 => ?_
    refine J.appendOI u22 ze2 sz2 by2 rfl rfl (by simp only [List.length_cons, List.length_nil]; omega) .z At.z (fun _ _ => At.z) rfl fun qo22 co22 => ?_
    refine J.p (PR.assign rfl) rfl ?_
    refine J.nil ?_
    refine EJ.inN ?_
    refine EJ.thenN (hK7 ?_)
    refine CJ.region ?_
    refine J.p (PR.add rfl rfl (by first | exact nw _ (by omega) | rfl)) rfl ?_
    refine J.p (PR.move rfl) rfl ?_
    refine J.nil ?_
    refine EJ.thenN ?_
    refine EJ.drop .z ?_
    exact hAg0 (qo22, co22, k + 1) (by show k + 1 ≤ ds.length; omega) (by show ds.length - (k + 1) < ds.length - k; omega) 15 rfl rfl ⟨rfl, ⟨(by dsimp only; rw [linK_succ]; rfl), trivial⟩⟩ rfl (by dsimp only; rw [linK_succ])
  ·
    refine CJ.exit ?_
    refine EJ.thenE ?_
    refine EJ.thenE ?_
    refine EJ.inE ?_
    refine EJ.thenN (hK3 ?_)
    refine CJ.seq fun _ hK9 _ => ?_
    refine CJ.region ?_
    refine J.p (PR.move rfl) rfl ?_
    refine J.p (PR.assign rfl) rfl ?_
    refine J.nil ?_
    refine EJ.thenN (hK9 ?_)
    refine CJ.ret ?_
    refine EJ.ret1 rfl (Res.tmp rfl) fun w hH => ?_
    replace hH := hH.sublist (.cons_cons _ (.cons _ (.cons _ (List.Sublist.refl _))))
    obtain rfl : k = ds.length := by omega
    rw [linK_len] at hH ⊢
    exact ⟨_, _, rfl, hH⟩
end Go.Proofs.Ytpojpokldncglaa.G
namespace Go.Proofs.Ytpojpokldncglaa.G
open Go Go.RowKit
namespace Xw
theorem u22 : Try.prog.underlying 22 = some (TypeDesc.slice 2) := by kernel_rfl
theorem u62 : Try.prog.underlying 62 = some (TypeDesc.slice 22) := by kernel_rfl
theorem sz22 : Size Try.prog 22 1 := by unfold Size; kernel_rfl
theorem pl22 : Plain Try.prog 22 := ⟨_, u22, rfl⟩
theorem fn137 : Fn Try.prog 137 := ⟨_, Try.func137, by kernel_rfl, rfl⟩
theorem fn156 : Fn Try.prog 156 := ⟨_, Try.func156, by kernel_rfl, rfl⟩
theorem fn177 : Fn Try.prog 177 := ⟨_, Try.func177, by kernel_rfl, rfl⟩
end Xw
open Xw
def ClR (B : World) (H0 H : HP) (g : Nat) (cap : Array Value) (S : List Int → Prop) (p : List Int → Bool) : Prop := ∀ (H' : HP) (L : List SA) (w : World) (q : Option Addr) (c : Nat) (x : List Int), Le H H' → S x → Ints H' q x → Hp B H0 H' L w → Calls Try.prog g (#[] ++ [.slice q x.length c].toArray ++ cap) w fun e w' => e = .returned (.bool (p x)) ∧ Hp B H0 H' L w'
set_option maxRecDepth 10000 in
theorem isMinimal11_c {B : World} {H0 H : HP} {L : List SA} {w : World} {x : Int}   (hH : Hp B H0 H L w) :
    Calls Try.prog 156 [.int .i64 x].toArray w fun e w' => e = .returned (.bool (decide (x ≠ 0))) ∧ Hp B H0 H L w' := by
  refine CJ.enter Try.func156 rfl 5 rfl rfl [(0, .int .i64 x)] rfl hH ?_
  clear hH
  refine CJ.seq fun _ hK1 _ => ?_
  refine CJ.region ?_
  refine J.p (PR.assign rfl) rfl ?_
  refine J.nil ?_
  refine EJ.thenN (hK1 ?_)
  refine CJ.seq fun _ hK2 _ => ?_
  refine CJ.region ?_
  refine J.p (PR.move rfl) rfl ?_
  refine J.p (PR.neq rfl rfl) rfl ?_
  refine J.p (PR.assign rfl) rfl ?_
  refine J.nil ?_
  refine EJ.thenN (hK2 ?_)
  refine CJ.ret ?_
  refine EJ.ret1 rfl (Res.tmp rfl) fun w hH => ?_
  exact ⟨rfl, hH⟩
set_option maxRecDepth 10000 in
theorem isMinimal1_c {B : World} {H0 H : HP} {L : List SA} {w : World} {qxs : Option Addr} {cxs : Nat} {xs : List Int}  (hxs : Ints H qxs xs) (hn : xs.length ≤ 1048576) (hH : Hp B H0 H L w) :
    Calls Try.prog 155 [.slice qxs xs.length cxs].toArray w fun e w' => e = .returned (.bool (xs.any fun x => decide (x ≠ 0))) ∧ Hp B H0 H L w' := by
  refine CJ.enter Try.func155 rfl 5 rfl rfl [(0, .slice qxs xs.length cxs)] rfl hH ?_
  clear hH
  refine CJ.seq fun _ hK1 _ => ?_
  refine CJ.region ?_
  refine J.p (PR.assign rfl) rfl ?_
  refine J.nil ?_
  refine EJ.thenN (hK1 ?_)
  refine CJ.seq fun _ hK2 _ => ?_
  refine CJ.region ?_
  refine J.p (PR.move rfl) rfl ?_
  refine J.call fn137 rfl rfl fun w hH => (ContainsFuncI_c hxs fn156 (fun x w hH => by simpa only [Array.append_empty, Array.empty_append] using isMinimal11_c hH) hn hH).mono ?_
  rintro _ w ⟨rfl, hH⟩
  refine ⟨_, rfl, fun a hF => J.of hF hH ?_⟩
  refine J.p (PR.assign rfl) rfl ?_
  refine J.nil ?_
  refine EJ.thenN (hK2 ?_)
  refine CJ.ret ?_
  refine EJ.ret1 rfl (Res.tmp rfl) fun w hH => ?_
  exact ⟨rfl, hH⟩
def idxR (xs : List (List Int)) (p : List Int → Bool) : Int := if xs.any p then (xs.findIdx p : Int) else -1
theorem rw_eq {xs : List (List Int)} {j : Nat} (hj : j < xs.length) : xs[j] = rw_ xs j := by simp [rw_, List.getD_eq_getElem?_getD, List.getElem?_eq_getElem hj]
theorem idxR_hit {xs : List (List Int)} {p : List Int → Bool} {k : Nat} (hk : k < xs.length) (h : ∀ j, j < k → p (rw_ xs j) = false) (hp : p (rw_ xs k) = true) : idxR xs p = k := by
  unfold idxR
  have ha : xs.any p = true := List.any_eq_true.2 ⟨xs[k], List.getElem_mem hk, by rw [rw_eq]; exact hp⟩
  rw [if_pos ha]
  have : xs.findIdx p = k := by
    rw [List.findIdx_eq hk]
    exact ⟨by rw [rw_eq]; exact hp, fun j hj => by rw [rw_eq]; exact h j hj⟩
  rw [this]
theorem idxR_miss {xs : List (List Int)} {p : List Int → Bool} (h : ∀ j, j < xs.length → p (rw_ xs j) = false) : idxR xs p = -1 := by
  unfold idxR
  rw [if_neg]
  intro ha
  obtain ⟨x, hx, hp⟩ := List.any_eq_true.1 ha
  obtain ⟨j, hj, rfl⟩ := List.mem_iff_getElem.1 hx
  rw [rw_eq hj, h j hj] at hp
  cases hp
theorem idxR_ge (xs : List (List Int)) (p : List Int → Bool) : decide (idxR xs p ≥ 0) = xs.any p := by
  unfold idxR
  cases h : xs.any p with
  | true => rw [if_pos rfl]; exact decide_eq_true (by omega)
  | false => rw [if_neg (by simp)]; exact decide_eq_false (by omega)
set_option maxRecDepth 10000 in
theorem IndexFuncR_c {B : World} {H0 H : HP} {L : List SA} {w : World} {qxs : Option Addr} {cxs : Nat} {xs : List (List Int)} {gp : Nat} {capp : Array Value} {Sp : List Int → Prop} {p : List Int → Bool}  (hxs : RowsR H qxs xs) (hgp : Fn Try.prog gp) (hp : ClR B H0 H gp capp Sp p) (hn : xs.length ≤ 9223372036854775807) (hS : ∀ i, i < xs.length → Sp (rw_ xs i)) (hH : Hp B H0 H L w) :
    Calls Try.prog 177 [.slice qxs xs.length cxs, .func (.func gp) #[] capp].toArray w fun e w' => e = .returned (.int .i64 (idxR xs p)) ∧ Hp B H0 H L w' := by
  refine CJ.enter Try.func177 rfl 19 rfl rfl [(0, .slice qxs xs.length cxs), (1, .func (.func gp) #[] capp)] rfl hH ?_
  clear hH
  refine CJ.seq fun _ hK1 _ => ?_
  refine CJ.region ?_
  refine J.p (PR.assign rfl) rfl ?_
  refine J.nil ?_
  refine EJ.thenN (hK1 ?_)
  refine CJ.seq fun _ hK2 _ => ?_
  refine CJ.seq fun _ hK3 _ => ?_
  refine CJ.region ?_
  refine J.p (PR.move rfl) rfl ?_
  refine J.p (PR.lenSlice u62 rfl rfl) rfl ?_
  refine J.p (PR.move rfl) rfl ?_
  refine J.nil ?_
  refine EJ.thenN (hK3 ?_)
  refine CJ.block ?_
  refine CJ.loopU (σ := Nat) (fun (k : Nat) => [(8, .int .i64 (k : Int))]) (fun (k : Nat) => H) (fun (k : Nat) => L) (fun (k : Nat) => k ≤ xs.length ∧ ∀ j, j < k → p (rw_ xs j) = false) (fun (k : Nat) => xs.length - k) 0 ⟨by omega, fun j hj => by omega⟩ ⟨rfl, trivial⟩ rfl rfl ?_
  rintro k hI _ hAg0
  have hk := hI.1
  refine CJ.seq fun _ hK4 _ => ?_
  refine CJ.region ?_
  refine J.p (PR.lss rfl rfl) rfl ?_
  refine J.nil ?_
  refine EJ.thenN (hK4 ?_)
  refine CJ.seq fun _ hK5 _ => ?_
  refine CJ.condD rfl (fun hc9 => ?_) (fun hc9 => ?_)
  ·
    refine CJ.skip ?_
    refine EJ.thenN (hK5 ?_)
    refine CJ.seq fun _ hK6 _ => ?_
    refine CJ.block ?_
    refine CJ.seq fun _ hK7 _ => ?_
    refine CJ.region ?_
    refine J.p (PR.move rfl) rfl ?_
    refine J.p (PR.assign rfl) rfl ?_
    refine J.nil ?_
    refine EJ.thenN (hK7 ?_)
    refine CJ.seq fun _ hK8 _ => ?_
    refine CJ.region ?_
    refine J.p (PR.move rfl) rfl ?_
    refine J.p (PR.move rfl) rfl ?_
    refine J.p (PR.move rfl) rfl ?_
    refine J.p (PR.idx1 u62 sz22 rfl rfl rfl (by omega) hxs.sm) rfl ?_
    obtain ⟨qe15, ce15, he15, le15, Fe15⟩ := hxs k (by omega)
    refine J.p (PR.loadH rfl he15 pl22) rfl ?_
    refine J.callV hgp rfl rfl rfl fun w hH => (hp _ _ w _ _ _ (Le.refl _) (hS _ (by omega)) Fe15 hH).mono ?_
    rintro _ w ⟨rfl, hH⟩
    refine ⟨_, rfl, fun a hF => J.of hF hH ?_⟩
    refine J.nil ?_
    refine EJ.thenN (hK8 ?_)
    refine CJ.cond rfl (fun h16 => ?_) (fun h16 => ?_)
    ·
      refine CJ.seq fun _ hK9 _ => ?_
      refine CJ.region ?_
      refine J.p (PR.move rfl) rfl ?_
      refine J.p (PR.assign rfl) rfl ?_
      refine J.nil ?_
      refine EJ.thenN (hK9 ?_)
      refine CJ.ret ?_
      refine EJ.inR ?_
      refine EJ.thenR ?_
      refine EJ.thenR ?_
      refine EJ.inR ?_
      refine EJ.thenR ?_
      refine EJ.ret1 rfl (Res.tmp rfl) fun w hH => ?_
      exact ⟨ri (idxR_hit (by omega) hI.2 h16).symm, hH⟩
    ·
      refine CJ.skip ?_
      refine EJ.inN ?_
      refine EJ.thenN (hK6 ?_)
      refine CJ.region ?_
      refine J.p (PR.add rfl rfl (by first | exact nw _ (by omega) | rfl)) rfl ?_
      refine J.p (PR.move rfl) rfl ?_
      refine J.nil ?_
      refine EJ.thenN ?_
      exact hAg0 (k + 1) ⟨by omega, upto hI.2 h16⟩ (by omega) 12 rfl rfl ⟨rfl, trivial⟩ rfl rfl
  ·
    refine CJ.exit ?_
    refine EJ.thenE ?_
    refine EJ.thenE ?_
    refine EJ.inE ?_
    refine EJ.thenN (hK2 ?_)
    refine CJ.seq fun _ hK10 _ => ?_
    refine CJ.region ?_
    refine J.p (PR.assign rfl) rfl ?_
    refine J.nil ?_
    refine EJ.thenN (hK10 ?_)
    refine CJ.ret ?_
    refine EJ.ret1 rfl (Res.tmp rfl) fun w hH => ?_
    exact ⟨ri (idxR_miss (fun j hj => hI.2 j (by omega))).symm, hH⟩
set_option maxRecDepth 10000 in
theorem ContainsFuncR_c {B : World} {H0 H : HP} {L : List SA} {w : World} {qxs : Option Addr} {cxs : Nat} {xs : List (List Int)} {gp : Nat} {capp : Array Value} {Sp : List Int → Prop} {p : List Int → Bool}  (hxs : RowsR H qxs xs) (hgp : Fn Try.prog gp) (hp : ClR B H0 H gp capp Sp p) (hn : xs.length ≤ 9223372036854775807) (hS : ∀ i, i < xs.length → Sp (rw_ xs i)) (hH : Hp B H0 H L w) :
    Calls Try.prog 154 [.slice qxs xs.length cxs, .func (.func gp) #[] capp].toArray w fun e w' => e = .returned (.bool (xs.any p)) ∧ Hp B H0 H L w' := by
  refine CJ.enter Try.func154 rfl 9 rfl rfl [(0, .slice qxs xs.length cxs), (1, .func (.func gp) #[] capp)] rfl hH ?_
  clear hH
  refine CJ.seq fun _ hK1 _ => ?_
  refine CJ.region ?_
  refine J.p (PR.assign rfl) rfl ?_
  refine J.nil ?_
  refine EJ.thenN (hK1 ?_)
  refine CJ.seq fun _ hK2 _ => ?_
  refine CJ.region ?_
  refine J.p (PR.move rfl) rfl ?_
  refine J.p (PR.move rfl) rfl ?_
  refine J.call fn177 rfl rfl fun w hH => (IndexFuncR_c hxs hgp hp (by omega) hS hH).mono ?_
  rintro _ w ⟨rfl, hH⟩
  refine ⟨_, rfl, fun a hF => J.of hF hH ?_⟩
  refine J.p (PR.geq rfl rfl) rfl ?_
  refine J.p (PR.assign rfl) rfl ?_
  refine J.nil ?_
  refine EJ.thenN (hK2 ?_)
  refine CJ.ret ?_
  refine EJ.ret1 rfl (Res.tmp rfl) fun w hH => ?_
  exact ⟨rb (idxR_ge xs p), hH⟩
end Go.Proofs.Ytpojpokldncglaa.G
namespace Go.Proofs.Ytpojpokldncglaa.G
open Go Go.RowKit
theorem wsum_zero {ds m : List Int} (h : ∀ j, m.getD j 0 = 0) : ∀ n : Nat, wsum ds m n = 0
  | 0 => rfl
  | n + 1 => by simp only [wsum]; rw [wsum_zero h n, h n]; simp
theorem isDeg_pos1 {ds : List Int} (h : isDeg ds = true) : ∀ j, j < ds.length → 1 ≤ ds.getD j 0 := by
  intro j hj
  unfold isDeg at h
  rw [Bool.and_eq_true] at h
  have := List.all_eq_true.1 h.2 (ds.getD j 0) (by rw [List.getD_eq_getElem?_getD, List.getElem?_eq_getElem hj]; exact List.getElem_mem hj)
  rw [Bool.and_eq_true, decide_eq_true_eq] at this
  omega
theorem ext8 {p q : List Int} (hp : p.length = 8) (hq : q.length = 8) (h : ∀ j, j < 8 → p.getD j 0 = q.getD j 0) : p = q := by
  apply List.ext_getElem (by omega)
  intro j h1 h2
  have := h j (by omega)
  rwa [List.getD_eq_getElem?_getD, List.getD_eq_getElem?_getD, List.getElem?_eq_getElem h1, List.getElem?_eq_getElem h2] at this
theorem wrd_nn {m : List Int} (hm : ∀ j, 0 ≤ m.getD j 0) : ∀ n : Nat, 0 ≤ wrd m n
  | 0 => by simp [wrd]
  | n + 1 => by have h1 := wrd_nn hm n; have h2 := hm n; simp only [wrd]; omega
theorem wrd_zero {m : List Int} (hm : ∀ j, 0 ≤ m.getD j 0) : ∀ n : Nat, wrd m n = 0 → ∀ j, j < n → m.getD j 0 = 0
  | 0, _, j, hj => by omega
  | n + 1, h, j, hj => by
    have h1 := wrd_nn hm n
    have h2 := hm n
    simp only [wrd] at h
    by_cases e : j = n
    · subst e; omega
    · exact wrd_zero hm n (by omega) j (by omega)
theorem wrd_ones {m : List Int} (hm : ∀ j, 0 ≤ m.getD j 0) : ∀ n : Nat, wrd m n = 1 → ∃ k, k < n ∧ m.getD k 0 = 1 ∧ ∀ j, j < n → j ≠ k → m.getD j 0 = 0
  | 0, h => by simp [wrd] at h
  | n + 1, h => by
    have h1 := wrd_nn hm n
    have h2 := hm n
    simp only [wrd] at h
    by_cases e : m.getD n 0 = 0
    · obtain ⟨k, hk, hk1, hk2⟩ := wrd_ones hm n (by omega)
      exact ⟨k, by omega, hk1, fun j hj hne => by
        by_cases e2 : j = n
        · subst e2; exact e
        · exact hk2 j (by omega) hne⟩
    · exact ⟨n, by omega, by omega, fun j hj hne => wrd_zero hm n (by omega) j (by omega)⟩
theorem wrd_gen {m : List Int} (hl : m.length = 8) (hm : ∀ j, 0 ≤ m.getD j 0) (h : wrd m 8 = 1) : ∃ k, k < 8 ∧ m = genP k := by
  obtain ⟨k, hk, h1, h2⟩ := wrd_ones hm 8 h
  refine ⟨k, hk, ext8 hl (by simp) fun j hj => ?_⟩
  rw [genP_get hk]
  by_cases e : k = j
  · subst e; rw [if_pos rfl, h1]
  · rw [if_neg e, h2 j hj fun h => e h.symm]
theorem wrd_genP {k : Nat} (hk : k < 8) : wrd (genP k) 8 = 1 := by
  simp only [wrd, genP_get hk]
  rcases (by omega : k = 0 ∨ k = 1 ∨ k = 2 ∨ k = 3 ∨ k = 4 ∨ k = 5 ∨ k = 6 ∨ k = 7) with h | h | h | h | h | h | h | h <;> subst h <;> rfl
theorem least_le {ts : List Term} : ∀ n k : Nat, k < n → least ts n ≤ wrdAt ts k
  | 0, k, h => by omega
  | n + 1, k, h => by
    simp only [least]
    by_cases e : k = n
    · subst e
      split <;> omega
    · have ih := least_le (ts := ts) n k (by omega)
      split
      · rename_i h0; rcases h0 with h0 | h0 <;> omega
      · omega
theorem least_hit {ts : List Term} : ∀ n : Nat, 0 < n → ∃ k, k < n ∧ least ts n = wrdAt ts k
  | 0, h => by omega
  | n + 1, _ => by
    simp only [least]
    split
    · exact ⟨n, by omega, rfl⟩
    · rename_i h0
      obtain ⟨k, hk, e⟩ := least_hit (ts := ts) n (by omega)
      exact ⟨k, by omega, e⟩
theorem tm_mem {ts : List Term} {i : Nat} (hi : i < ts.length) : tm ts i ∈ ts := by rw [← tm_eq hi]; exact List.getElem_mem hi
theorem toS_in {ts : List Term} {i : Nat} (hi : i < ts.length) : ((tm ts i).mono, (tm ts i).fac) ∈ toS ts := List.mem_map.2 ⟨tm ts i, tm_mem hi, rfl⟩
theorem toS_ix {ts : List Term} {x : Pw × Int} (h : x ∈ toS ts) : ∃ i, i < ts.length ∧ x = ((tm ts i).mono, (tm ts i).fac) := by
  obtain ⟨t, ht, rfl⟩ := toS_mem h
  obtain ⟨i, hi, rfl⟩ := List.mem_iff_getElem.1 ht
  exact ⟨i, hi, by rw [tm_eq hi]⟩
theorem cf_hit {s : Sm} {p : Pw} (h : cf s p ≠ 0) : ∃ x ∈ s, x.1 = p := by
  rcases Classical.em (∃ x ∈ s, x.1 = p) with h1 | h1
  · exact h1
  · exact absurd (cf_none fun x hx e => h1 ⟨x, hx, e⟩) h
theorem good_facs {ds : List Int} {ts : List Term} {i : Nat} (h : goodAt ds ts i = true) : isMono ds (tm ts i).mono = true ∧ 1 ≤ (tm ts i).fac := by
  unfold goodAt at h
  simp only [Bool.and_eq_true, decide_eq_true_eq] at h
  exact ⟨h.1.1, h.1.2.1⟩
theorem linR_any {ds : Pw} {s : Sm} : ((linR ds s).any fun x => decide (x ≠ 0)) = true ↔ ∃ k, k < ds.length ∧ cf s (genP k) ≠ 0 := by
  unfold linR
  rw [List.any_map, List.any_eq_true]
  constructor
  · rintro ⟨k, hk, h⟩
    exact ⟨k, by simpa using hk, by simpa using h⟩
  · rintro ⟨k, hk, h⟩
    exact ⟨k, by simpa using hk, by simpa using h⟩
theorem lin_least {ds : List Int} {ts : List Term} (hn : ds.length ≤ 8) (hw : Wfs ts) (hf : isForm ds ts = true) (hp : ∀ k, k < ts.length → 1 ≤ wrdAt ts k) : ((linR ds (toS ts)).any fun x => decide (x ≠ 0)) = decide (least ts ts.length = 1) := by
  have hmono : ∀ i, i < ts.length → Mono (tm ts i).mono := fun i hi => (hw _ (tm_mem hi)).mono
  rw [Bool.eq_iff_iff, linR_any, decide_eq_true_eq]
  constructor
  · rintro ⟨k, hk, h⟩
    obtain ⟨x, hx, e⟩ := cf_hit h
    obtain ⟨i, hi, rfl⟩ := toS_ix hx
    have h1 : wrdAt ts i = 1 := by unfold wrdAt; rw [show (tm ts i).mono = genP k from e, wrd_genP (by omega)]
    have h2 := least_le (ts := ts) ts.length i hi
    obtain ⟨k', hk', e'⟩ := least_hit (ts := ts) ts.length (by omega)
    have := hp k' hk'
    omega
  · intro h
    have hl : 0 < ts.length := by
      rcases Nat.eq_zero_or_pos ts.length with e | e
      · rw [e] at h; simp [least] at h
      · exact e
    obtain ⟨i, hi, e⟩ := least_hit (ts := ts) ts.length hl
    rw [h] at e
    have hm := hmono i hi
    obtain ⟨k, hk, e2⟩ := wrd_gen hm.len (fun j => (hm.bd j).1) e.symm
    have hg := good_facs (isForm_at hf hi)
    refine ⟨k, ?_, ?_⟩
    · rcases Nat.lt_or_ge k ds.length with hlt | hge
      · exact hlt
      · have h3 := isMono_le hg.1 hk
        rw [most_ge (by omega), e2, genP_get hk, if_pos rfl] at h3
        omega
    · have hs := isForm_sok hw hf
      have := cf_mem hs.nodup (toS_in hi)
      dsimp only at this
      rw [← e2, this]
      omega
theorem alg_wrd {ds : List Int} {fs : List (List Term)} (h : isAlg ds fs = true) (hw : Wfss fs) {i : Nat} (hi : i < fs.length) : ∀ k, k < (fm fs i).length → 1 ≤ wrdAt (fm fs i) k := fun k hk => by
  have hA := isAlg_ok h hw
  have h2 := h
  unfold isAlg at h2
  simp only [Bool.and_eq_true] at h2
  have hd1 := isDeg_pos1 h2.1.1.1
  have h3 := imsOk_at h2.1.2 hi
  unfold imOk degOk at h3
  simp only [Bool.and_eq_true, Bool.or_eq_true, decide_eq_true_eq] at h3
  have hm : Mono (tm (fm fs i) k).mono := ((hA.wf.fm i) _ (tm_mem hk)).mono
  have hz := wrd_nn (fun j => (hm.bd j).1) 8
  rcases (by omega : 0 < wrdAt (fm fs i) k ∨ wrdAt (fm fs i) k ≤ 0) with h4 | h4
  · omega
  · exfalso
    have h5 : wrd (tm (fm fs i) k).mono 8 = 0 := by unfold wrdAt at h4; omega
    have h6 := wrd_zero (fun j => (hm.bd j).1) 8 h5
    have h7 : wd ds (fm fs i) k = 0 := by
      unfold wd
      exact wsum_zero (fun j => by
        rcases Nat.lt_or_ge j 8 with hj | hj
        · exact h6 j hj
        · exact getD_ge (by rw [hm.len]; omega)) _
    have h8 : degF ds (fm fs i) = 0 := by
      have hh := h3.2.1
      unfold degF outAt
      rw [hh, if_pos rfl, if_neg (by omega)]
      unfold homog at hh
      have := List.all_eq_true.1 hh k (by simpa using hk)
      simp only [decide_eq_true_eq] at this
      omega
    have h9 := hd1 i (by have := hA.hl; omega)
    rcases h3.2.2 with h10 | h10 <;> omega
def linT (ds : List Int) (fs : List (List Term)) : List (List Int) := fs.map fun ts => linR ds (toS ts)
@[simp] theorem linT_len (ds : List Int) (fs : List (List Term)) : (linT ds fs).length = fs.length := by simp [linT]
def anyN (r : List Int) : Bool := r.any fun x => decide (x ≠ 0)
def minB (ds : List Int) (fs : List (List Term)) : Bool := !((linT ds fs).any anyN)
def minL (fs : List (List Term)) : Bool := (List.range fs.length).all fun i => decide (least (fm fs i) (fm fs i).length ≠ 1)
theorem minB_eq {ds : List Int} {fs : List (List Term)} (h : isAlg ds fs = true) (hw : Wfss fs) : minB ds fs = minL fs := by
  have hA := isAlg_ok h hw
  unfold minB minL linT
  rw [List.any_map]
  have e : fs = (List.range fs.length).map (fm fs) := by
    apply List.ext_getElem (by simp)
    intro j h1 h2
    simp [fm_eq h1]
  conv => lhs; rw [e]
  rw [List.any_map, Bool.eq_iff_iff, Bool.not_eq_true', List.any_eq_false, List.all_eq_true]
  have hk : ∀ i, i < fs.length → anyN (linR ds (toS (fm fs i))) = decide (least (fm fs i) (fm fs i).length = 1) := fun i hi => lin_least hA.hn (hA.wf.fm i) (hA.ok i hi) (alg_wrd h hw hi)
  constructor
  · intro h1 i hi
    have h2 := h1 i hi
    simp only [Function.comp] at h2
    rw [hk i (by simpa using hi)] at h2
    simpa using h2
  · intro h1 i hi
    have h2 := h1 i hi
    simp only [Function.comp]
    rw [hk i (by simpa using hi)]
    simpa using h2
theorem minL_bad {fs : List (List Term)} {i : Nat} (hi : i < fs.length) (h : least (fm fs i) (fm fs i).length = 1) : minL fs = false := List.all_eq_false.2 ⟨i, by simpa using hi, by simp [h]⟩
theorem minL_good {fs : List (List Term)} (h : ∀ j, j < fs.length → decide (least (fm fs j) (fm fs j).length ≠ 1) = true) : minL fs = true := List.all_eq_true.2 fun j hj => h j (by simpa using hj)
end Go.Proofs.Ytpojpokldncglaa.G
namespace Go.Proofs.Ytpojpokldncglaa.G
open Go Go.RowKit
def mxT (m r : List Int) (x : Int) : Nat → Int
  | 0 => x
  | j + 1 => if m.getD j 0 = 0 then mxT m r x j else max (mxT m r x j) (r.getD j 0 + 1)
def mxF (ts : List Term) (r : List Int) : Nat → Int
  | 0 => 1
  | k + 1 => mxT (tm ts k).mono r (mxF ts r k) 8
def okT (m r : List Int) (n : Nat) : Prop := ∀ j, j < n → m.getD j 0 ≠ 0 → r.getD j 0 ≠ 0
def okF (ts : List Term) (r : List Int) (k : Nat) : Prop := ∀ i, i < k → okT (tm ts i).mono r 8
instance (m r : List Int) (n : Nat) : Decidable (okT m r n) := Nat.decidableBallLT n _
instance (ts : List Term) (r : List Int) (k : Nat) : Decidable (okF ts r k) := Nat.decidableBallLT k _
def rkF (ts : List Term) (r : List Int) : Int := if okF ts r ts.length then mxF ts r ts.length else 0
def stepR (fs : List (List Term)) (r : List Int) (i : Nat) : List Int := if r.getD i 0 = 0 then r.set i (rkF (fm fs i) r) else r
def inR (fs : List (List Term)) (r : List Int) : Nat → List Int
  | 0 => r
  | i + 1 => stepR fs (inR fs r i) i
theorem mxT_congr {m r r' : List Int} {x : Int} : ∀ n : Nat, (∀ j, j < n → m.getD j 0 ≠ 0 → r.getD j 0 = r'.getD j 0) → mxT m r x n = mxT m r' x n
  | 0, _ => rfl
  | n + 1, h => by
    simp only [mxT]
    rw [mxT_congr n fun j hj => h j (by omega)]
    by_cases e : m.getD n 0 = 0
    · rw [if_pos e, if_pos e]
    · rw [if_neg e, if_neg e, h n (by omega) e]
theorem mxF_congr {ts : List Term} {r r' : List Int} : ∀ k : Nat, (∀ i, i < k → ∀ j, j < 8 → (tm ts i).mono.getD j 0 ≠ 0 → r.getD j 0 = r'.getD j 0) → mxF ts r k = mxF ts r' k
  | 0, _ => rfl
  | k + 1, h => by
    simp only [mxF]
    rw [mxF_congr k fun i hi => h i (by omega), mxT_congr 8 (h k (by omega))]
theorem mxT_bd {m r : List Int} {x M : Int} (hr : ∀ j, 0 ≤ r.getD j 0 ∧ r.getD j 0 ≤ M) (hx : 1 ≤ x ∧ x ≤ M + 1) : ∀ n : Nat, 1 ≤ mxT m r x n ∧ mxT m r x n ≤ M + 1
  | 0 => hx
  | n + 1 => by
    have h1 := mxT_bd hr hx n (m := m)
    have h2 := hr n
    simp only [mxT]
    split <;> omega
theorem mxF_bd {ts : List Term} {r : List Int} {M : Int} (hr : ∀ j, 0 ≤ r.getD j 0 ∧ r.getD j 0 ≤ M) (hM : 0 ≤ M) : ∀ k : Nat, 1 ≤ mxF ts r k ∧ mxF ts r k ≤ M + 1
  | 0 => by simp only [mxF]; omega
  | k + 1 => mxT_bd hr (mxF_bd hr hM k) 8
theorem rkF_bd {ts : List Term} {r : List Int} {M : Int} (hr : ∀ j, 0 ≤ r.getD j 0 ∧ r.getD j 0 ≤ M) (hM : 0 ≤ M) : 0 ≤ rkF ts r ∧ rkF ts r ≤ M + 1 := by
  have := mxF_bd (ts := ts) hr hM ts.length
  unfold rkF
  split <;> omega
theorem getD_set {r : List Int} {i j : Nat} {v : Int} : (r.set i v).getD j 0 = if i = j ∧ i < r.length then v else r.getD j 0 := by
  rw [List.getD_eq_getElem?_getD, List.getD_eq_getElem?_getD, List.getElem?_set]
  by_cases e : i = j
  · subst e
    by_cases h : i < r.length
    · rw [if_pos rfl, if_pos h, if_pos ⟨rfl, h⟩]; rfl
    · rw [if_pos rfl, if_neg h, if_neg fun x => h x.2, List.getElem?_eq_none (by omega)]
  · rw [if_neg e, if_neg fun x => e x.1]
theorem okF_iff {ts : List Term} {r : List Int} : rkF ts r ≠ 0 → okF ts r ts.length := fun h => by
  unfold rkF at h
  by_cases e : okF ts r ts.length
  · exact e
  · rw [if_neg e] at h; exact absurd rfl h
theorem rkF_ok {ts : List Term} {r : List Int} (h : okF ts r ts.length) : rkF ts r = mxF ts r ts.length := if_pos h
theorem rkF_set {ts : List Term} {r : List Int} {i : Nat} {v : Int} (h0 : r.getD i 0 = 0) (h : rkF ts r ≠ 0) : rkF ts (r.set i v) = rkF ts r := by
  have ho := okF_iff h
  have hc : ∀ k, k < ts.length → ∀ j, j < 8 → (tm ts k).mono.getD j 0 ≠ 0 → (r.set i v).getD j 0 = r.getD j 0 := fun k hk j hj hm => by
    rw [getD_set, if_neg]
    rintro ⟨rfl, _⟩
    exact ho k hk i hj hm h0
  have ho' : okF ts (r.set i v) ts.length := fun k hk j hj hm => by rw [hc k hk j hj hm]; exact ho k hk j hj hm
  rw [rkF_ok ho, rkF_ok ho', mxF_congr _ hc]
structure RkOk (fs : List (List Term)) (n : Nat) (M : Int) (r : List Int) : Prop where
  len : r.length = n
  bd : ∀ j, 0 ≤ r.getD j 0 ∧ r.getD j 0 ≤ M
  is : ∀ i, r.getD i 0 ≠ 0 → rkF (fm fs i) r = r.getD i 0
theorem RkOk.nn {fs : List (List Term)} {n : Nat} {M : Int} {r : List Int} (h : RkOk fs n M r) : 0 ≤ M := by have := h.bd 0; omega
theorem RkOk.start (fs : List (List Term)) (n : Nat) : RkOk fs n 0 (List.replicate n 0) := by
  have h0 : ∀ j, (List.replicate n (0 : Int)).getD j 0 = 0 := fun j => by
    rw [List.getD_eq_getElem?_getD, List.getElem?_replicate]
    split <;> rfl
  exact ⟨by simp, fun j => by rw [h0]; omega, fun i h => absurd (h0 i) h⟩
theorem RkOk.step {fs : List (List Term)} {n : Nat} {M : Int} {r : List Int} (h : RkOk fs n M r) (i : Nat) : RkOk fs n (M + 1) (stepR fs r i) := by
  unfold stepR
  split
  · rename_i h0
    have hb := rkF_bd (ts := fm fs i) h.bd h.nn
    refine ⟨by rw [List.length_set]; exact h.len, fun j => ?_, fun k hk => ?_⟩
    · rw [getD_set]; have := h.bd j; split <;> omega
    · rw [getD_set] at hk ⊢
      by_cases e : i = k ∧ i < r.length
      · obtain ⟨rfl, hl⟩ := e
        rw [if_pos ⟨rfl, hl⟩] at hk ⊢
        exact rkF_set h0 hk
      · rw [if_neg e] at hk ⊢
        have := h.is k hk
        rw [rkF_set h0 (by rw [this]; exact hk), this]
  · exact ⟨h.len, fun j => by have := h.bd j; omega, h.is⟩
theorem RkOk.mono {fs : List (List Term)} {n : Nat} {M M' : Int} {r : List Int} (h : RkOk fs n M r) (hM : M ≤ M') : RkOk fs n M' r := ⟨h.len, fun j => by have := h.bd j; omega, h.is⟩
theorem RkOk.inR {fs : List (List Term)} {n : Nat} {M : Int} {r : List Int} (h : RkOk fs n M r) : ∀ i : Nat, RkOk fs n (M + i) (G.inR fs r i)
  | 0 => h.mono (by omega)
  | i + 1 => ((RkOk.inR h i).step i).mono (by omega)
end Go.Proofs.Ytpojpokldncglaa.G
namespace Go.Proofs.Ytpojpokldncglaa.G
open Go Go.RowKit
def rowJ (m : List Int) (f : Int) (r : List Int) : Nat → List Int
  | 0 => r
  | j + 1 => if m.getD j 0 = 1 then (rowJ m f r j).set j f else rowJ m f r j
def rowK (ts : List Term) (n : Nat) : Nat → List Int
  | 0 => List.replicate n 0
  | k + 1 => if wrdAt ts k = 1 then rowJ (tm ts k).mono (tm ts k).fac (rowK ts n k) n else rowK ts n k
@[simp] theorem rowJ_len (m : List Int) (f : Int) (r : List Int) : ∀ j : Nat, (rowJ m f r j).length = r.length
  | 0 => rfl
  | j + 1 => by
    simp only [rowJ]
    split
    · rw [List.length_set, rowJ_len m f r j]
    · exact rowJ_len m f r j
@[simp] theorem rowK_len (ts : List Term) (n : Nat) : ∀ k : Nat, (rowK ts n k).length = n
  | 0 => by simp [rowK]
  | k + 1 => by
    simp only [rowK]
    split
    · rw [rowJ_len, rowK_len ts n k]
    · exact rowK_len ts n k
theorem linT_at {ds : List Int} {fs : List (List Term)} {i : Nat} (hi : i < fs.length) : rw_ (linT ds fs) i = linR ds (toS (fm fs i)) := by
  unfold linT rw_
  rw [List.getD_eq_getElem?_getD, List.getElem?_map, List.getElem?_eq_getElem hi, fm_eq hi]
  rfl
def linK2 (ds : List Int) (fs : List (List Term)) (k : Nat) : List (List Int) := (fs.take k).map fun ts => linR ds (toS ts)
theorem linK2_len {ds : List Int} {fs : List (List Term)} {k : Nat} (hk : k ≤ fs.length) : (linK2 ds fs k).length = k := by simp [linK2]; omega
theorem linK2_succ {ds : List Int} {fs : List (List Term)} {k : Nat} (hk : k < fs.length) : linK2 ds fs (k + 1) = linK2 ds fs k ++ [linR ds (toS (fm fs k))] := by
  unfold linK2
  rw [take_fm hk, List.map_append]
  rfl
theorem linK2_end (ds : List Int) (fs : List (List Term)) : linK2 ds fs fs.length = linT ds fs := by simp [linK2, linT]
def algC (ds : List Int) (fs : List (List Term)) : Int := if isAlg ds fs then 0 else 1
end Go.Proofs.Ytpojpokldncglaa.G
namespace Go.Proofs.Ytpojpokldncglaa.G
open Go Go.RowKit
namespace Xy
theorem u22 : Try.prog.underlying 22 = some (TypeDesc.slice 2) := by kernel_rfl
theorem u29 : Try.prog.underlying 29 = some (TypeDesc.struct #[{ name := "Terms", type := 27, offset := 0, embedded := false, tag := "", pkgPath := "", byteOffset := 0 }]) := by kernel_rfl
theorem u39 : Try.prog.underlying 39 = some (TypeDesc.slice 29) := by kernel_rfl
theorem u41 : Try.prog.underlying 41 = some (TypeDesc.struct #[{ name := "Degrees", type := 22, offset := 0, embedded := false, tag := "", pkgPath := "", byteOffset := 0 }, { name := "Images", type := 39, offset := 1, embedded := false, tag := "", pkgPath := "", byteOffset := 24 }]) := by kernel_rfl
theorem u62 : Try.prog.underlying 62 = some (TypeDesc.slice 22) := by kernel_rfl
theorem sz22 : Size Try.prog 22 1 := by unfold Size; kernel_rfl
theorem sz29 : Size Try.prog 29 1 := by unfold Size; kernel_rfl
theorem sz39 : Size Try.prog 39 1 := by unfold Size; kernel_rfl
theorem by22 : Bytes Try.prog 22 24 := by unfold Bytes; kernel_rfl
theorem ze22 : Zero Try.prog 22 [.slice none 0 0] := by unfold Zero; kernel_rfl
theorem ze29 : Zero Try.prog 29 [.slice none 0 0] := by unfold Zero; kernel_rfl
theorem pl22 : Plain Try.prog 22 := ⟨_, u22, rfl⟩
theorem pl39 : Plain Try.prog 39 := ⟨_, u39, rfl⟩
theorem ag29 : Agg Try.prog 29 1 := ⟨_, u29, rfl, by kernel_rfl⟩
theorem ag41 : Agg Try.prog 41 2 := ⟨_, u41, rfl, by kernel_rfl⟩
theorem fn101 : Fn Try.prog 101 := ⟨_, Try.func101, by kernel_rfl, rfl⟩
theorem fn103 : Fn Try.prog 103 := ⟨_, Try.func103, by kernel_rfl, rfl⟩
theorem fn104 : Fn Try.prog 104 := ⟨_, Try.func104, by kernel_rfl, rfl⟩
theorem fn108 : Fn Try.prog 108 := ⟨_, Try.func108, by kernel_rfl, rfl⟩
theorem fn127 : Fn Try.prog 127 := ⟨_, Try.func127, by kernel_rfl, rfl⟩
theorem fn154 : Fn Try.prog 154 := ⟨_, Try.func154, by kernel_rfl, rfl⟩
theorem fn155 : Fn Try.prog 155 := ⟨_, Try.func155, by kernel_rfl, rfl⟩
theorem fn89 : Fn Try.prog 89 := ⟨_, Try.func89, by kernel_rfl, rfl⟩
theorem fn99 : Fn Try.prog 99 := ⟨_, Try.func99, by kernel_rfl, rfl⟩
theorem foll0 : Try.prog.follows .mixedOrders = true := by kernel_rfl
end Xy
open Xy
theorem forms_nil (H : HP) : Forms H none [] := fun i hi => by simp at hi
theorem ClR.le {B : World} {H0 H H' : HP} {g : Nat} {cap : Array Value} {S : List Int → Prop} {p : List Int → Bool} (h : ClR B H0 H g cap S p) (hle : Le H H') : ClR B H0 H' g cap S p := fun H2 L w q c x h2 => h H2 L w q c x (hle.trans h2)
theorem codeA_nil (ds : List Int) (fs : List (List Term)) : codeA ds fs [] = algC ds fs := by unfold codeA algC; simp
theorem algC_ne {ds : List Int} {fs : List (List Term)} (h : algC ds fs ≠ 0) : isAlg ds fs = false := by
  unfold algC at h
  cases e : isAlg ds fs with
  | false => rfl
  | true => rw [e, if_pos rfl] at h; exact absurd rfl h
theorem algC_eq {ds : List Int} {fs : List (List Term)} (h : ¬ algC ds fs ≠ 0) : isAlg ds fs = true := by
  unfold algC at h
  cases e : isAlg ds fs with
  | false => rw [e] at h; exact absurd (by decide) h
  | true => rfl
theorem algC_z {ds : List Int} {fs : List (List Term)} (h : isAlg ds fs = true) : 0 = algC ds fs := by unfold algC; rw [if_pos h]
theorem algC_o {ds : List Int} {fs : List (List Term)} (h : isAlg ds fs = false) : 1 = algC ds fs := by unfold algC; rw [h]; rfl
def minV (ds : List Int) (fs : List (List Term)) : Bool := isAlg ds fs && minB ds fs
set_option maxHeartbeats 2000000 in
set_option maxRecDepth 10000 in
theorem linearTable_c {B : World} {H0 H : HP} {L : List SA} {w : World} {ba : Nat} {qad qaf : Option Addr} {cad caf : Nat} {ad : List Int} {af : List (List Term)}  (pad : CellAt H ba 0 (.slice qad ad.length cad)) (paf : CellAt H ba 1 (.slice qaf af.length caf)) (had : Ints H qad ad) (haf : Forms H qaf af) (hA : AlgOk ad af) (hH : Hp B H0 H L w) :
    Calls Try.prog 108 [.pointer (some ⟨ba, 0, none⟩)].toArray w fun e w' => ∃ q c vs, e = .returned (.slice q (linT ad af).length c) ∧ Hp B H0 H (ownRs 22 2 q c vs (linT ad af) :: L) w' := by
  refine CJ.enter Try.func108 rfl 27 rfl rfl [(0, .pointer (some ⟨ba, 0, none⟩))] rfl hH ?_
  clear hH
  refine CJ.seq fun _ hK1 _ => ?_
  refine CJ.region ?_
  refine J.p (PR.assign rfl) rfl ?_
  refine J.nil ?_
  refine EJ.thenN (hK1 ?_)
  refine CJ.seq fun _ hK2 _ => ?_
  refine CJ.region ?_
  refine J.mk (MK.lit0 u62 sz22) rfl fun qo6 co6 => ?_
  refine J.is0 2 ?_
  refine J.p (PR.assign rfl) rfl ?_
  refine J.nil ?_
  refine EJ.thenN (hK2 ?_)
  refine CJ.seq fun _ hK3 _ => ?_
  refine CJ.seq fun _ hK4 _ => ?_
  refine CJ.region ?_
  refine J.p (PR.move rfl) rfl ?_
  refine J.p (PR.nilCheck rfl) rfl ?_
  refine J.p (PR.fldA u41 rfl sz39 rfl) rfl ?_
  refine J.p (PR.loadH (q := some ⟨ba, 0, none⟩) (k := 1) rfl paf pl39) rfl ?_
  refine J.p (PR.lenSlice u39 rfl rfl) rfl ?_
  refine J.p (PR.move rfl) rfl ?_
  refine J.nil ?_
  refine EJ.thenN (hK4 ?_)
  refine CJ.block ?_
  refine CJ.loopU (σ := Option Addr × Nat × Vs × Nat) (fun ⟨q, c, vs, k⟩ => [(12, .int .i64 (k : Int)), (3, .slice q k c)]) (fun ⟨q, c, vs, k⟩ => H) (fun ⟨q, c, vs, k⟩ => ownIs 2 vs (linK2 ad af k) :: own 22 1 q k c (slicesI vs (linK2 ad af k)) :: L) (fun ⟨q, c, vs, k⟩ => k ≤ af.length) (fun ⟨q, c, vs, k⟩ => af.length - k) (qo6, co6, nilVs, 0) (by show 0 ≤ af.length; omega) ⟨rfl, ⟨rfl, trivial⟩⟩ rfl rfl ?_
  rintro ⟨q, c, vs, k⟩ hI _ hAg0
  have hk := hI
  have hn8 := hA.hn
  have hl8 := hA.hl
  refine CJ.seq fun _ hK5 _ => ?_
  refine CJ.region ?_
  refine J.p (PR.lss rfl rfl) rfl ?_
  refine J.nil ?_
  refine EJ.thenN (hK5 ?_)
  refine CJ.seq fun _ hK6 _ => ?_
  refine CJ.condD rfl (fun hc13 => ?_) (fun hc13 => ?_)
  ·
    refine CJ.skip ?_
    refine EJ.thenN (hK6 ?_)
    refine CJ.seq fun _ hK7 _ => ?_
    refine CJ.block ?_
    refine CJ.seq fun _ hK8 _ => ?_
    refine CJ.region ?_
    refine J.p (PR.idx1 u39 sz29 rfl rfl rfl (by omega) haf.sm) rfl ?_
    obtain ⟨qe15, ce15, he15, le15, Fe15⟩ := haf k (by omega)
    refine J.p (PR.loadHagg (cs := [_]) rfl (one_cell he15) (haf.sm (i := k) (by omega)) ag29) rfl ?_
    refine J.alloc ze29 rfl fun g5 => ?_
    refine J.storeAll rfl rfl (by first | exact bytesC_one _ | exact intsC_one _ | exact Term.c_one _ | simp [Value.oneCell']) (by simpa [*] using sz29) (by simp [*]) At.z ?_
    refine J.nil ?_
    refine EJ.thenN (hK8 ?_)
    refine CJ.openR (Rs := [_, _, _]) 10 [[], [], [1], [1, 2], [1, 2, 3], [], [1, 2, 3, 4, 5], [1, 2, 3, 4, 5, 6], [0, 1, 2, 3, 4, 5, 6, 7], [0, 1, 2, 3, 4, 5, 6, 7, 8]] [[], [], [], [], [], [10], [], [], [7], []] [[], [], [], [], [], [], [], [], [12], []] rfl rfl (by kernel_rfl) ?_
    apply GJ.st0 1 rfl
    · intro gh; conv => lhs; simp only [slotsZ, zlAt, vs0, resL, at2, eq_self, Nat.reduceEqDiff, reduceIte, Nat.reduceSub, Nat.reduceAdd, List.cons_append, List.nil_append]
      all_goals rfl
    · intro gh X; conv => lhs; simp only [slotsZ, zlAt, vs0, resL, at2, eq_self, Nat.reduceEqDiff, reduceIte, Nat.reduceSub, Nat.reduceAdd, List.cons_append, List.nil_append]
      all_goals rfl
    · intro gh X; conv => lhs; simp only [slotsZ, zlAt, vs0, resL, at2, eq_self, Nat.reduceEqDiff, reduceIte, Nat.reduceSub, Nat.reduceAdd, List.cons_append, List.nil_append]
      all_goals rfl
    ·
      intro gh X K zq zc zq2 zc2 zb zv hK
      refine J.p (PR.move rfl) rfl ?_
      refine J.nilK ?_
      exact hK zq zc zq2 zc2 zb zv
    ·
      intro gh gh' h
      rfl
    apply GJ.st0 2 rfl
    · intro gh; conv => lhs; simp only [slotsZ, zlAt, vs0, resL, at2, eq_self, Nat.reduceEqDiff, reduceIte, Nat.reduceSub, Nat.reduceAdd, List.cons_append, List.nil_append]
      all_goals rfl
    · intro gh X; conv => lhs; simp only [slotsZ, zlAt, vs0, resL, at2, eq_self, Nat.reduceEqDiff, reduceIte, Nat.reduceSub, Nat.reduceAdd, List.cons_append, List.nil_append]
      all_goals rfl
    · intro gh X; conv => lhs; simp only [slotsZ, zlAt, vs0, resL, at2, eq_self, Nat.reduceEqDiff, reduceIte, Nat.reduceSub, Nat.reduceAdd, List.cons_append, List.nil_append]
      all_goals rfl
    ·
      intro gh X K zq zc zq2 zc2 zb zv hK
      refine J.p (PR.move rfl) rfl ?_
      refine J.nilK ?_
      exact hK zq zc zq2 zc2 zb zv
    ·
      intro gh gh' h
      rfl
    apply GJ.st0 3 rfl
    · intro gh; conv => lhs; simp only [slotsZ, zlAt, vs0, resL, at2, eq_self, Nat.reduceEqDiff, reduceIte, Nat.reduceSub, Nat.reduceAdd, List.cons_append, List.nil_append]
      all_goals rfl
    · intro gh X; conv => lhs; simp only [slotsZ, zlAt, vs0, resL, at2, eq_self, Nat.reduceEqDiff, reduceIte, Nat.reduceSub, Nat.reduceAdd, List.cons_append, List.nil_append]
      all_goals rfl
    · intro gh X; conv => lhs; simp only [slotsZ, zlAt, vs0, resL, at2, eq_self, Nat.reduceEqDiff, reduceIte, Nat.reduceSub, Nat.reduceAdd, List.cons_append, List.nil_append]
      all_goals rfl
    ·
      intro gh X K zq zc zq2 zc2 zb zv hK
      refine J.p (PR.nilCheck rfl) rfl ?_
      refine J.nilK ?_
      exact hK zq zc zq2 zc2 zb zv
    ·
      intro gh gh' h
      rfl
    apply GJ.st0 4 rfl
    · intro gh; conv => lhs; simp only [slotsZ, zlAt, vs0, resL, at2, eq_self, Nat.reduceEqDiff, reduceIte, Nat.reduceSub, Nat.reduceAdd, List.cons_append, List.nil_append]
      all_goals rfl
    · intro gh X; conv => lhs; simp only [slotsZ, zlAt, vs0, resL, at2, eq_self, Nat.reduceEqDiff, reduceIte, Nat.reduceSub, Nat.reduceAdd, List.cons_append, List.nil_append]
      all_goals rfl
    · intro gh X; conv => lhs; simp only [slotsZ, zlAt, vs0, resL, at2, eq_self, Nat.reduceEqDiff, reduceIte, Nat.reduceSub, Nat.reduceAdd, List.cons_append, List.nil_append]
      all_goals rfl
    ·
      intro gh X K zq zc zq2 zc2 zb zv hK
      refine J.p (PR.fldA u41 rfl sz22 rfl) rfl ?_
      refine J.nilK ?_
      exact hK zq zc zq2 zc2 zb zv
    ·
      intro gh gh' h
      rfl
    apply GJ.st0 5 rfl
    · intro gh; conv => lhs; simp only [slotsZ, zlAt, vs0, resL, at2, eq_self, Nat.reduceEqDiff, reduceIte, Nat.reduceSub, Nat.reduceAdd, List.cons_append, List.nil_append]
      all_goals rfl
    · intro gh X; conv => lhs; simp only [slotsZ, zlAt, vs0, resL, at2, eq_self, Nat.reduceEqDiff, reduceIte, Nat.reduceSub, Nat.reduceAdd, List.cons_append, List.nil_append]
      all_goals rfl
    · intro gh X; conv => lhs; simp only [slotsZ, zlAt, vs0, resL, at2, eq_self, Nat.reduceEqDiff, reduceIte, Nat.reduceSub, Nat.reduceAdd, List.cons_append, List.nil_append]
      all_goals rfl
    ·
      intro gh X K zq zc zq2 zc2 zb zv hK
      refine J.p (PR.loadH (q := some ⟨ba, 0, none⟩) (k := 0) rfl pad pl22) rfl ?_
      refine J.nilK ?_
      exact hK zq zc zq2 zc2 zb zv
    ·
      intro gh gh' h
      rfl
    apply GJ.st0 6 rfl
    · intro gh; conv => lhs; simp only [slotsZ, zlAt, vs0, resL, at2, eq_self, Nat.reduceEqDiff, reduceIte, Nat.reduceSub, Nat.reduceAdd, List.cons_append, List.nil_append]
      all_goals rfl
    · intro gh X; conv => lhs; simp only [slotsZ, zlAt, vs0, resL, at2, eq_self, Nat.reduceEqDiff, reduceIte, Nat.reduceSub, Nat.reduceAdd, List.cons_append, List.nil_append]
      all_goals rfl
    · intro gh X; conv => lhs; simp only [slotsZ, zlAt, vs0, resL, at2, eq_self, Nat.reduceEqDiff, reduceIte, Nat.reduceSub, Nat.reduceAdd, List.cons_append, List.nil_append]
      all_goals rfl
    ·
      intro gh X K zq zc zq2 zc2 zb zv hK
      refine J.p (PR.loadAll rfl At.z (by simpa [*] using ag29)) rfl ?_
      refine J.nilK ?_
      exact hK zq zc zq2 zc2 zb zv
    ·
      intro gh gh' h
      rfl
    apply GJ.st1 7 rfl
    · intro gh; conv => lhs; simp only [slotsZ, zlAt, vs0, resL, at2, eq_self, Nat.reduceEqDiff, reduceIte, Nat.reduceSub, Nat.reduceAdd, List.cons_append, List.nil_append]
      all_goals rfl
    · intro gh X; conv => lhs; simp only [slotsZ, zlAt, vs0, resL, at2, eq_self, Nat.reduceEqDiff, reduceIte, Nat.reduceSub, Nat.reduceAdd, List.cons_append, List.nil_append]
      all_goals rfl
    · intro gh X; conv => lhs; simp only [slotsZ, zlAt, vs0, resL, at2, eq_self, Nat.reduceEqDiff, reduceIte, Nat.reduceSub, Nat.reduceAdd, List.cons_append, List.nil_append]
      all_goals rfl
    ·
      intro gh X K zq zc zq2 zc2 zb zv hK
      refine J.call fn127 rfl rfl fun w hH => (linearRow_c had Fe15 hA.hn (hA.fok k (by omega)).1 (hA.fok k (by omega)).2 hH).mono ?_
      rintro _ w ⟨qo22, co22, rfl, hH⟩
      refine ⟨_, rfl, fun a hF => J.of hF hH ?_⟩
      refine J.nilK ?_
      exact hK qo22 co22 zq2 zc2 zb zv
    ·
      intro gh gh' h
      refine ⟨?_, ?_⟩ <;> rfl
    apply GJ.st1 8 rfl
    · intro gh; conv => lhs; simp only [slotsZ, zlAt, vs0, resL, at2, eq_self, Nat.reduceEqDiff, reduceIte, Nat.reduceSub, Nat.reduceAdd, List.cons_append, List.nil_append]
      all_goals rfl
    · intro gh X; conv => lhs; simp only [slotsZ, zlAt, vs0, resL, at2, eq_self, Nat.reduceEqDiff, reduceIte, Nat.reduceSub, Nat.reduceAdd, List.cons_append, List.nil_append]
      all_goals rfl
    · intro gh X; conv => lhs; simp only [slotsZ, zlAt, vs0, resL, at2, eq_self, Nat.reduceEqDiff, reduceIte, Nat.reduceSub, Nat.reduceAdd, List.cons_append, List.nil_append]
      all_goals rfl
    ·
      intro gh X K zq zc zq2 zc2 zb zv hK
      refine J.mk (MK.lit1S u62 ze22 sz22 rfl rfl) rfl fun qo23 co23 => ?_
      refine J.nilK ?_
      exact hK qo23 co23 zq2 zc2 zb zv
    ·
      intro gh gh' h
      refine ⟨?_, ?_⟩ <;> (first | simp only [h 6 rfl] | rfl)
    apply GJ.st1 9 rfl
    · intro gh; conv => lhs; simp only [slotsZ, zlAt, vs0, resL, at2, eq_self, Nat.reduceEqDiff, reduceIte, Nat.reduceSub, Nat.reduceAdd, List.cons_append, List.nil_append]
      all_goals rfl
    · intro gh X; conv => lhs; simp only [slotsZ, zlAt, vs0, resL, at2, eq_self, Nat.reduceEqDiff, reduceIte, Nat.reduceSub, Nat.reduceAdd, List.cons_append, List.nil_append]
      all_goals rfl
    · intro gh X; conv => lhs; simp only [slotsZ, zlAt, vs0, resL, at2, eq_self, Nat.reduceEqDiff, reduceIte, Nat.reduceSub, Nat.reduceAdd, List.cons_append, List.nil_append]
      all_goals rfl
    ·
      intro gh X K zq zc zq2 zc2 zb zv hK
      refine J.append1 u62 ze22 sz22 by22 rfl rfl rfl rfl (by omega) (.s .z) At.z (fun _ _ => At.z) rfl fun qo24 co24 => ?_
      refine EJ.front .z ?_
      refine EJ.front (.s .z) ?_
      refine J.nilK ?_
      exact hK qo24 co24 zq2 zc2 zb zv
    ·
      intro gh gh' h
      refine ⟨?_, ?_⟩ <;> (first | simp only [h 6 rfl, h 7 rfl] | rfl)
    apply GJ.st0 10 rfl
    · intro gh; conv => lhs; simp only [slotsZ, zlAt, vs0, resL, at2, eq_self, Nat.reduceEqDiff, reduceIte, Nat.reduceSub, Nat.reduceAdd, List.cons_append, List.nil_append]
      all_goals rfl
    · intro gh X; conv => lhs; simp only [slotsZ, zlAt, vs0, resL, at2, eq_self, Nat.reduceEqDiff, reduceIte, Nat.reduceSub, Nat.reduceAdd, List.cons_append, List.nil_append]
      all_goals rfl
    · intro gh X; conv => lhs; simp only [slotsZ, zlAt, vs0, resL, at2, eq_self, Nat.reduceEqDiff, reduceIte, Nat.reduceSub, Nat.reduceAdd, List.cons_append, List.nil_append]
      all_goals rfl
    ·
      intro gh X K zq zc zq2 zc2 zb zv hK
      refine J.p (PR.assign rfl) rfl ?_
      refine J.nilK ?_
      exact hK zq zc zq2 zc2 zb zv
    ·
      intro gh gh' h
      first | simp only [h 6 rfl, h 7 rfl, h 8 rfl] | rfl
    apply GJ.close [0, 1, 2, 3, 4, 5, 6, 7, 8, 9] [0, 1, 2, 3, 4, 5, 6, 7, 8, 9, 10, 11] foll0 rfl rfl rfl (by rfl)
    · intro gh; conv => lhs; simp only [slotsZ, zlAt, vs0, resL, at2, eq_self, Nat.reduceEqDiff, reduceIte, Nat.reduceSub, Nat.reduceAdd, List.cons_append, List.nil_append]
      all_goals rfl
    · intro gh; conv => lhs; simp only [slotsZ, zlAt, vs0, resL, at2, eq_self, Nat.reduceEqDiff, reduceIte, Nat.reduceSub, Nat.reduceAdd, List.cons_append, List.nil_append]
      all_goals rfl
    intro gh
    generalize (gh 6).c = co22
    generalize (gh 6).q = qo22
    generalize (gh 7).c = co23
    generalize (gh 7).q = qo23
    generalize (gh 8).c = co24
    generalize (gh 8).q = qo24
    clear gh
    refine EJ.inN ?_
    refine EJ.thenN (hK7 ?_)
    refine CJ.region ?_
    refine J.p (PR.add rfl rfl (by first | exact nw _ (by omega) | rfl)) rfl ?_
    refine J.p (PR.move rfl) rfl ?_
    refine J.nil ?_
    refine EJ.thenN ?_
    refine EJ.front (.s (.s (.s .z))) ?_
    refine EJ.front (.s (.s (.s .z))) ?_
    refine EJ.front (.s (.s (.s .z))) ?_
    refine EJ.front (.s (.s (.s (.s .z)))) ?_
    refine EJ.front (.s (.s (.s (.s .z)))) ?_
    refine EJ.isSnoc (rs := linK2 ad af k) (linK2_len (by omega)) (linR_len _ _) ?_
    refine EJ.drop (.s .z) ?_
    refine EJ.drop (.s (.s .z)) ?_
    exact hAg0 (qo24, co24, setV vs k (qo22, co22), k + 1) (by show k + 1 ≤ af.length; omega) (by show af.length - (k + 1) < af.length - k; omega) 18 rfl rfl ⟨rfl, ⟨rfl, trivial⟩⟩ rfl (by dsimp only; rw [linK2_succ (by omega), slicesI_set (linK2_len (by omega)), linR_len])
  ·
    refine CJ.exit ?_
    refine EJ.thenE ?_
    refine EJ.thenE ?_
    refine EJ.inE ?_
    refine EJ.thenN (hK3 ?_)
    refine CJ.seq fun _ hK9 _ => ?_
    refine CJ.region ?_
    refine J.p (PR.move rfl) rfl ?_
    refine J.p (PR.assign rfl) rfl ?_
    refine J.nil ?_
    refine EJ.thenN (hK9 ?_)
    refine CJ.ret ?_
    refine EJ.ret1 rfl (Res.tmp rfl) fun w hH => ?_
    replace hH := hH.sublist (.cons_cons _ (.cons_cons _ (List.Sublist.refl _)))
    obtain rfl : k = af.length := by omega
    rw [linK2_end] at hH
    exact ⟨q, c, vs, by rw [linT_len], by unfold ownRs; rw [linT_len]; exact (hH.front (.s .z)).star⟩
set_option maxRecDepth 10000 in
theorem isMinimal_c {B : World} {H0 H : HP} {L : List SA} {w : World} {ba : Nat} {qad qaf : Option Addr} {cad caf : Nat} {ad : List Int} {af : List (List Term)}  (pad : CellAt H ba 0 (.slice qad ad.length cad)) (paf : CellAt H ba 1 (.slice qaf af.length caf)) (had : Ints H qad ad) (haf : Forms H qaf af) (hA : AlgOk ad af) (hH : Hp B H0 H L w) :
    Calls Try.prog 104 [.pointer (some ⟨ba, 0, none⟩)].toArray w fun e w' => e = .returned (.bool (minB ad af)) ∧ Hp B H0 H L w' := by
  refine CJ.enter Try.func104 rfl 7 rfl rfl [(0, .pointer (some ⟨ba, 0, none⟩))] rfl hH ?_
  have hcl : ClR B H0 H 155 #[] (fun x => x.length ≤ 1048576) anyN := fun H2 L w q c x hle hS hx hH => by rw [Array.append_empty, Array.empty_append]; exact isMinimal1_c hx hS hH
  have hn8 := hA.hn
  have hl8 := hA.hl
  clear hH
  refine CJ.seq fun _ hK1 _ => ?_
  refine CJ.region ?_
  refine J.p (PR.assign rfl) rfl ?_
  refine J.nil ?_
  refine EJ.thenN (hK1 ?_)
  refine CJ.seq fun _ hK2 _ => ?_
  refine CJ.region ?_
  refine J.p (PR.move rfl) rfl ?_
  refine J.call fn108 rfl rfl fun w hH => (linearTable_c pad paf had haf hA hH).mono ?_
  rintro _ w ⟨qo4, co4, vso4, rfl, hH⟩
  refine ⟨_, rfl, fun a hF => J.of hF hH ?_⟩
  refine J.call fn154 rfl rfl fun w hH => hH.lend .z fun Hl1 hle1 hA1 hB1 hH => (ContainsFuncR_c (own_rows hA1) fn155 (hcl.le hle1) (by rw [linT_len]; omega) (fun i hi => by rw [linT_at (by simpa using hi), linR_len]; omega) hH).mono ?_
  rintro _ w ⟨rfl, hH⟩
  replace hH := hB1 _ _ hH
  refine ⟨_, rfl, fun a hF => J.of hF hH ?_⟩
  refine J.p (PR.not rfl) rfl ?_
  refine J.p (PR.assign rfl) rfl ?_
  refine J.nil ?_
  refine EJ.thenN (hK2 ?_)
  refine CJ.ret ?_
  refine EJ.ret1 rfl (Res.tmp rfl) fun w hH => ?_
  replace hH := hH.tail
  exact ⟨rfl, hH⟩
set_option maxRecDepth 10000 in
theorem l02Minimal_c {B : World} {H0 H : HP} {L : List SA} {w : World} {qad qaf : Option Addr} {cad caf : Nat} {ad : List Int} {af : List (List Term)}  (had : Ints H qad ad) (haf : Forms H qaf af) (hn9 : af.length ≤ 1048576) (hl9 : ∀ i, i < af.length → (fm af i).length ≤ 1048576) (hH : Hp B H0 H L w) :
    Calls Try.prog 103 [.agg [.slice qad ad.length cad, .slice qaf af.length caf].toArray].toArray w fun e w' => e = .returned (.bool (minL af)) ∧ Hp B H0 H L w' := by
  refine CJ.enter Try.func103 rfl 18 rfl rfl [(0, .agg [.slice qad ad.length cad, .slice qaf af.length caf].toArray)] rfl hH ?_
  clear hH
  refine CJ.seq fun _ hK1 _ => ?_
  refine CJ.region ?_
  refine J.box rfl rfl rfl fun g1 => ?_
  refine J.p (PR.assign rfl) rfl ?_
  refine J.nil ?_
  refine EJ.thenN (hK1 ?_)
  refine CJ.seq fun _ hK2 _ => ?_
  refine CJ.seq fun _ hK3 _ => ?_
  refine CJ.region ?_
  refine J.p (PR.assign rfl) rfl ?_
  refine J.nil ?_
  refine EJ.thenN (hK3 ?_)
  refine CJ.block ?_
  refine CJ.loopU (σ := Nat) (fun (k : Nat) => [(3, .int .i64 (k : Int))]) (fun (k : Nat) => H) (fun (k : Nat) => obj g1 (.cells [.slice qad ad.length cad, .slice qaf af.length caf].toArray 41 (0, 0)) :: L) (fun (k : Nat) => k ≤ af.length ∧ ∀ j, j < k → decide (least (fm af j) (fm af j).length ≠ 1) = true) (fun (k : Nat) => af.length - k) 0 ⟨by omega, fun j hj => by omega⟩ ⟨rfl, trivial⟩ rfl rfl ?_
  rintro k ⟨hk, hI⟩ _ hAg0
  refine CJ.seq fun _ hK4 _ => ?_
  refine CJ.seq fun _ hK5 _ => ?_
  refine CJ.region ?_
  refine J.p (PR.move rfl) rfl ?_
  refine J.p (PR.fldA u41 rfl sz39 rfl) rfl ?_
  refine J.p (PR.load rfl At.z rfl pl39) rfl ?_
  refine J.p (PR.lenSlice u39 rfl rfl) rfl ?_
  refine J.p (PR.lss rfl rfl) rfl ?_
  refine J.nil ?_
  refine EJ.thenN (hK5 ?_)
  refine CJ.condD rfl (fun hc8 => ?_) (fun hc8 => ?_)
  ·
    refine CJ.skip ?_
    refine EJ.thenN (hK4 ?_)
    refine CJ.seq fun _ hK6 _ => ?_
    refine CJ.block ?_
    refine CJ.seq fun _ hK7 _ => ?_
    refine CJ.region ?_
    refine J.p (PR.fldA u41 rfl sz39 rfl) rfl ?_
    refine J.p (PR.load rfl At.z rfl pl39) rfl ?_
    refine J.p (PR.move rfl) rfl ?_
    refine J.p (PR.idx1 u39 sz29 rfl rfl rfl (by omega) haf.sm) rfl ?_
    obtain ⟨qe15, ce15, he15, le15, Fe15⟩ := haf k (by omega)
    refine J.p (PR.loadHagg (cs := [_]) rfl (one_cell he15) (haf.sm (i := k) (by omega)) ag29) rfl ?_
    refine J.call fn101 rfl rfl fun w hH => (l02Least_c Fe15 (by have := hl9 k (by omega); omega) hH).mono ?_
    rintro _ w ⟨rfl, hH⟩
    refine ⟨_, rfl, fun a hF => J.of hF hH ?_⟩
    refine J.p (PR.eql rfl rfl) rfl ?_
    refine J.nil ?_
    refine EJ.thenN (hK7 ?_)
    refine CJ.condD rfl (fun h17 => ?_) (fun h17 => ?_)
    ·
      refine CJ.seq fun _ hK8 _ => ?_
      refine CJ.region ?_
      refine J.p (PR.assign rfl) rfl ?_
      refine J.nil ?_
      refine EJ.thenN (hK8 ?_)
      refine CJ.ret ?_
      refine EJ.inR ?_
      refine EJ.thenR ?_
      refine EJ.thenR ?_
      refine EJ.inR ?_
      refine EJ.thenR ?_
      refine EJ.ret1 rfl (Res.tmp rfl) fun w hH => ?_
      replace hH := hH.tail
      exact ⟨rb (minL_bad (i := k) (by omega) h17).symm, hH⟩
    ·
      refine CJ.skip ?_
      refine EJ.inN ?_
      refine EJ.thenN (hK6 ?_)
      refine CJ.region ?_
      refine J.p (PR.move rfl) rfl ?_
      refine J.p (PR.add rfl rfl (by first | exact nw _ (by omega) | rfl)) rfl ?_
      refine J.p (PR.assign rfl) rfl ?_
      refine J.nil ?_
      refine EJ.thenN ?_
      exact hAg0 (k + 1) ⟨by omega, upto hI (decide_eq_true h17)⟩ (by omega) 16 rfl rfl ⟨rfl, trivial⟩ rfl rfl
  ·
    refine CJ.exit ?_
    refine EJ.thenE ?_
    refine EJ.thenE ?_
    refine EJ.inE ?_
    refine EJ.thenN (hK2 ?_)
    refine CJ.seq fun _ hK9 _ => ?_
    refine CJ.region ?_
    refine J.p (PR.assign rfl) rfl ?_
    refine J.nil ?_
    refine EJ.thenN (hK9 ?_)
    refine CJ.ret ?_
    refine EJ.ret1 rfl (Res.tmp rfl) fun w hH => ?_
    replace hH := hH.tail
    exact ⟨rb (minL_good (fun j hj => hI j (by omega))).symm, hH⟩
set_option maxRecDepth 10000 in
theorem sIsMinimal_c {B : World} {H0 H : HP} {L : List SA} {w : World} {qad qaf : Option Addr} {cad caf : Nat} {ad : List Int} {af : List (List Term)}  (had : Ints H qad ad) (haf : Forms H qaf af) (hn8 : ad.length ≤ 1048576) (hn9 : af.length ≤ 1048576) (hl9 : ∀ i, i < af.length → (fm af i).length ≤ 1048576) (hH : Hp B H0 H L w) :
    Calls Try.prog 41 [.agg [.slice qad ad.length cad, .slice qaf af.length caf].toArray].toArray w fun e w' => e = .returned (.tuple #[.bool (minV ad af), .int .i64 (algC ad af)]) ∧ Hp B H0 H L w' := by
  refine CJ.enter Try.func41 rfl 9 rfl rfl [(0, .agg [.slice qad ad.length cad, .slice qaf af.length caf].toArray)] rfl hH ?_
  clear hH
  refine CJ.seq fun _ hK1 _ => ?_
  refine CJ.region ?_
  refine J.box rfl rfl rfl fun g1 => ?_
  refine J.p (PR.assign rfl) rfl ?_
  refine J.p (PR.assign rfl) rfl ?_
  refine J.nil ?_
  refine EJ.thenN (hK1 ?_)
  refine CJ.seq fun _ hK2 _ => ?_
  refine CJ.seq fun _ hK3 _ => ?_
  refine CJ.region ?_
  refine J.p (PR.loadAll rfl At.z (by simpa [*] using ag41)) rfl ?_
  refine J.call fn89 rfl rfl fun w hH => (l02Is_c had haf hn8 hn9 hl9 hH).mono ?_
  rintro _ w ⟨rfl, hH⟩
  refine ⟨_, rfl, fun a hF => J.of hF hH ?_⟩
  refine J.p (PR.not rfl) rfl ?_
  refine J.nil ?_
  refine EJ.thenN (hK3 ?_)
  refine CJ.cond rfl (fun h6 => ?_) (fun h6 => ?_)
  ·
    have hf6 : isAlg ad af = false := by simpa using h6
    refine CJ.seq fun _ hK4 _ => ?_
    refine CJ.region ?_
    refine J.p (PR.assign rfl) rfl ?_
    refine J.p (PR.assign rfl) rfl ?_
    refine J.nil ?_
    refine EJ.thenN (hK4 ?_)
    refine CJ.ret ?_
    refine EJ.thenR ?_
    refine EJ.ret2 rfl (Res.tmp rfl) (Res.tmp rfl) fun w hH => ?_
    replace hH := hH.tail
    exact ⟨tup_bi (by unfold minV; rw [hf6]; rfl) (algC_o hf6), hH⟩
  ·
    have hA6 : isAlg ad af = true := by simpa using h6
    refine CJ.skip ?_
    refine EJ.thenN (hK2 ?_)
    refine CJ.seq fun _ hK5 _ => ?_
    refine CJ.region ?_
    refine J.p (PR.loadAll rfl At.z (by simpa [*] using ag41)) rfl ?_
    refine J.call fn103 rfl rfl fun w hH => (l02Minimal_c had haf hn9 hl9 hH).mono ?_
    rintro _ w ⟨rfl, hH⟩
    refine ⟨_, rfl, fun a hF => J.of hF hH ?_⟩
    refine J.p (PR.assign rfl) rfl ?_
    refine J.p (PR.assign rfl) rfl ?_
    refine J.nil ?_
    refine EJ.thenN (hK5 ?_)
    refine CJ.ret ?_
    refine EJ.ret2 rfl (Res.tmp rfl) (Res.tmp rfl) fun w hH => ?_
    replace hH := hH.tail
    exact ⟨tup_bi (by unfold minV; rw [hA6, Bool.true_and, minB_eq hA6 haf.wfss]) (algC_z hA6), hH⟩
set_option maxRecDepth 10000 in
theorem IsMinimal_c {B : World} {H0 H : HP} {L : List SA} {w : World} {qad qaf : Option Addr} {cad caf : Nat} {ad : List Int} {af : List (List Term)}  (had : Ints H qad ad) (haf : Forms H qaf af) (hn8 : ad.length ≤ 1048576) (hn9 : af.length ≤ 1048576) (hl9 : ∀ i, i < af.length → (fm af i).length ≤ 1048576) (hH : Hp B H0 H L w) :
    Calls Try.prog 42 [.agg [.slice qad ad.length cad, .slice qaf af.length caf].toArray].toArray w fun e w' => e = .returned (.tuple #[.bool (minV ad af), .int .i64 (algC ad af)]) ∧ Hp B H0 H L w' := by
  refine CJ.enter Try.func42 rfl 10 rfl rfl [(0, .agg [.slice qad ad.length cad, .slice qaf af.length caf].toArray)] rfl hH ?_
  have hw0 := hH.old
  have hw1 := hH.le
  clear hH
  refine CJ.seq fun _ hK1 _ => ?_
  refine CJ.region ?_
  refine J.box rfl rfl rfl fun g1 => ?_
  refine J.freezeRow .z fun H2 hle2 hc2 => ?_
  replace had := had.le hle2
  replace haf := haf.le hle2
  have pad : CellAt H2 g1 0 (.slice qad ad.length cad) := hc2 0 _ rfl
  have paf : CellAt H2 g1 1 (.slice qaf af.length caf) := hc2 1 _ rfl
  refine J.p (PR.assign rfl) rfl ?_
  refine J.p (PR.assign rfl) rfl ?_
  refine J.nil ?_
  refine EJ.thenN (hK1 ?_)
  refine CJ.seq fun _ hK2 _ => ?_
  refine CJ.seq fun _ hK3 _ => ?_
  refine CJ.region ?_
  refine J.call fn99 rfl rfl fun w hH => (algebraCode_c pad paf had haf (forms_nil H2) hn8 hn9 hl9 (by simp) (fun i hi => by simp at hi) hH).mono ?_
  rintro _ w ⟨rfl, hH⟩
  refine ⟨_, rfl, fun a hF => J.of hF hH ?_⟩
  refine J.p (PR.assign rfl) rfl ?_
  refine J.nil ?_
  refine EJ.thenN (hK3 ?_)
  refine CJ.seq fun _ hK4 _ => ?_
  refine CJ.region ?_
  refine J.p (PR.move rfl) rfl ?_
  refine J.p (PR.neq rfl rfl) rfl ?_
  refine J.nil ?_
  refine EJ.thenN (hK4 ?_)
  refine CJ.condD rfl (fun h7 => ?_) (fun h7 => ?_)
  ·
    rw [codeA_nil] at h7 ⊢
    refine CJ.seq fun _ hK5 _ => ?_
    refine CJ.region ?_
    refine J.p (PR.move rfl) rfl ?_
    refine J.p (PR.assign rfl) rfl ?_
    refine J.p (PR.assign rfl) rfl ?_
    refine J.nil ?_
    refine EJ.thenN (hK5 ?_)
    refine CJ.ret ?_
    refine EJ.thenR ?_
    refine EJ.ret2 rfl (Res.tmp rfl) (Res.tmp rfl) fun w hH => ?_
    exact ⟨tup_bi (by unfold minV; rw [algC_ne h7]; rfl) rfl, hH.weaken hle2 hw0 hw1⟩
  ·
    rw [codeA_nil] at h7
    have hA7 := algC_eq h7
    have hA := isAlg_ok hA7 haf.wfss
    refine CJ.skip ?_
    refine EJ.thenN (hK2 ?_)
    refine CJ.seq fun _ hK6 _ => ?_
    refine CJ.region ?_
    refine J.call fn104 rfl rfl fun w hH => (isMinimal_c pad paf had haf hA hH).mono ?_
    rintro _ w ⟨rfl, hH⟩
    refine ⟨_, rfl, fun a hF => J.of hF hH ?_⟩
    refine J.p (PR.assign rfl) rfl ?_
    refine J.p (PR.assign rfl) rfl ?_
    refine J.nil ?_
    refine EJ.thenN (hK6 ?_)
    refine CJ.ret ?_
    refine EJ.ret2 rfl (Res.tmp rfl) (Res.tmp rfl) fun w hH => ?_
    exact ⟨tup_bi (by unfold minV; rw [hA7, Bool.true_and]) (algC_z hA7), hH.weaken hle2 hw0 hw1⟩
end Go.Proofs.Ytpojpokldncglaa.G
namespace Go.Proofs.Ytpojpokldncglaa.G
open Go Go.RowKit
namespace Lk
theorem u4 : Try.prog.underlying 4 = some (TypeDesc.bool) := by kernel_rfl
theorem u41 : Try.prog.underlying 41 = some (TypeDesc.struct #[{ name := "Degrees", type := 22, offset := 0, embedded := false, tag := "", pkgPath := "", byteOffset := 0 }, { name := "Images", type := 39, offset := 1, embedded := false, tag := "", pkgPath := "", byteOffset := 24 }]) := by kernel_rfl
theorem u49 : Try.prog.underlying 49 = some (TypeDesc.struct #[{ name := "Degrees", type := 22, offset := 0, embedded := false, tag := "", pkgPath := "", byteOffset := 0 }, { name := "Images", type := 47, offset := 1, embedded := false, tag := "", pkgPath := "", byteOffset := 24 }]) := by kernel_rfl
theorem sz41 : Size Try.prog 41 2 := by unfold Size; kernel_rfl
theorem ze41 : Zero Try.prog 41 [.slice none 0 0, .slice none 0 0] := by unfold Zero; kernel_rfl
theorem ag41 : Agg Try.prog 41 2 := ⟨_, u41, rfl, by kernel_rfl⟩
theorem ag49 : Agg Try.prog 49 2 := ⟨_, u49, rfl, by kernel_rfl⟩
theorem fn30 : Fn Try.prog 30 := ⟨_, Try.func30, by kernel_rfl, rfl⟩
theorem fn33 : Fn Try.prog 33 := ⟨_, Try.func33, by kernel_rfl, rfl⟩
theorem fn35 : Fn Try.prog 35 := ⟨_, Try.func35, by kernel_rfl, rfl⟩
theorem fn41 : Fn Try.prog 41 := ⟨_, Try.func41, by kernel_rfl, rfl⟩
theorem fn42 : Fn Try.prog 42 := ⟨_, Try.func42, by kernel_rfl, rfl⟩
theorem foll0 : Try.prog.follows .mixedOrders = true := by kernel_rfl
end Lk
open Lk
set_option maxHeartbeats 2000000 in
set_option maxRecDepth 10000 in
theorem lawIsMinimal_c {B : World} {H0 H : HP} {L : List SA} {w : World} {qad qaf : Option Addr} {cad caf : Nat} {ad : List Int} {af : List (List Term)}  (had : Ints H qad ad) (haf : Forms H qaf af) (hn : ad.length ≤ 9223372036854775807 ∧ af.length ≤ 9223372036854775807) (hl : ∀ i, i < af.length → (fm af i).length ≤ 9223372036854775807) (hH : Hp B H0 H L w) :
    Calls Try.prog 8 [.agg [.slice qad ad.length cad, .slice qaf af.length caf].toArray].toArray w fun e w' => e = .returned (.bool true) ∧ Below B.heap.size B w' := by
  refine CJ.enter Try.func8 rfl 40 rfl rfl [(0, .agg [.slice qad ad.length cad, .slice qaf af.length caf].toArray)] rfl hH ?_
  clear hH
  refine CJ.seq fun _ hK1 _ => ?_
  refine CJ.region ?_
  refine J.box rfl rfl rfl fun g1 => ?_
  refine J.p (PR.assign rfl) rfl ?_
  refine J.nil ?_
  refine EJ.thenN (hK1 ?_)
  refine CJ.seq fun _ hK2 _ => ?_
  refine CJ.region ?_
  refine J.p (PR.assign rfl) rfl ?_
  refine J.nil ?_
  refine EJ.thenN (hK2 ?_)
  refine CJ.seq fun _ hK3 _ => ?_
  refine CJ.region ?_
  refine J.p (PR.loadAll rfl At.z (by simpa [*] using ag49)) rfl ?_
  refine J.p (PR.move rfl) rfl ?_
  refine J.call fn33 rfl rfl fun w hH => (szAlgebra_c had haf (by omega) hl hH).mono ?_
  rintro _ w ⟨rfl, hH⟩
  refine ⟨_, rfl, fun a hF => J.of hF hH ?_⟩
  refine J.p (PR.assign rfl) rfl ?_
  refine J.nil ?_
  refine EJ.thenN (hK3 ?_)
  refine CJ.seq fun _ hK4 _ => ?_
  refine CJ.seq fun _ hK5 _ => ?_
  refine CJ.region ?_
  refine J.p (PR.move rfl) rfl ?_
  refine J.p (PR.lss rfl rfl) rfl ?_
  refine J.nil ?_
  refine EJ.thenN (hK5 ?_)
  refine CJ.condD rfl (fun h11 => ?_) (fun h11 => ?_)
  ·
    refine CJ.seq fun _ hK6 _ => ?_
    refine CJ.region ?_
    refine J.p (PR.assign rfl) rfl ?_
    refine J.nil ?_
    refine EJ.thenN (hK6 ?_)
    refine CJ.ret ?_
    refine EJ.thenR ?_
    refine EJ.ret1 rfl (Res.tmp rfl) fun w hH => ?_
    replace hH := hH.tail
    first | exact ⟨rfl, hH.below⟩ | exact absurd rfl h11p | exact absurd rfl h11 | (exfalso; omega) | (simp at h11; done)
  ·
    have hsz : ad.length + af.length + tot af ≤ 1048576 := by unfold szv at h11; split at h11 <;> omega
    have hl6 : ∀ i, i < af.length → (fm af i).length ≤ 1048576 := fun i hi => by have := tot_fm hi; omega
    refine CJ.skip ?_
    refine EJ.thenN (hK4 ?_)
    refine CJ.seq fun _ hK7 _ => ?_
    refine CJ.region ?_
    refine J.p (PR.loadAll rfl At.z (by simpa [*] using ag49)) rfl ?_
    refine J.call fn35 rfl rfl fun w hH => (toAlgebra_c had haf (by omega) hl6 hH).mono ?_
    rintro _ w ⟨qdo16, cdo16, qfo16, cfo16, vso16, rfl, hH⟩
    refine ⟨_, rfl, fun a hF => J.of hF hH ?_⟩
    refine J.call fn41 rfl rfl fun w hH => hH.lend .z fun Hl1 hle1 hA1 hB1 hH => hH.lend .z fun Hl2 hle2 hA2 hB2 hH => (sIsMinimal_c ((own_ints hA1).le hle2) (own_forms haf.wfss hA2) (by omega) (by omega) hl6 hH).mono ?_
    rintro _ w ⟨rfl, hH⟩
    replace hH := hB2 _ _ hH
    replace hH := hB1 _ _ hH
    refine ⟨_, rfl, fun a hF => J.of hF hH ?_⟩
    refine J.p (PR.move rfl) rfl ?_
    refine J.p (PR.extract rfl rfl) rfl ?_
    refine J.p (PR.extract rfl rfl) rfl ?_
    refine J.p (PR.assign rfl) rfl ?_
    refine J.p (PR.assign rfl) rfl ?_
    refine J.nil ?_
    refine EJ.thenN (hK7 ?_)
    refine CJ.seq fun _ hK8 _ => ?_
    refine CJ.region ?_
    refine J.p (PR.loadAll rfl (.s (.s .z)) (by simpa [*] using ag49)) rfl ?_
    refine J.call fn35 rfl rfl fun w hH => (toAlgebra_c had haf (by omega) hl6 hH).mono ?_
    rintro _ w ⟨qdo21, cdo21, qfo21, cfo21, vso21, rfl, hH⟩
    refine ⟨_, rfl, fun a hF => J.of hF hH ?_⟩
    refine J.alloc ze41 rfl fun g6 => ?_
    refine J.storeAll rfl rfl (by first | exact bytesC_one _ | exact intsC_one _ | exact Term.c_one _ | simp [Value.oneCell']) (by simpa [*] using sz41) (by simp [*]) At.z ?_
    refine J.nil ?_
    refine EJ.thenN (hK8 ?_)
    refine CJ.seq fun _ hK9 _ => ?_
    refine CJ.region ?_
    refine J.p (PR.loadAll rfl At.z (by simpa [*] using ag41)) rfl ?_
    refine J.call fn42 rfl rfl fun w hH => hH.lend (.s .z) fun Hl1 hle1 hA1 hB1 hH => hH.lend (.s .z) fun Hl2 hle2 hA2 hB2 hH => (IsMinimal_c ((own_ints hA1).le hle2) (own_forms haf.wfss hA2) (by omega) (by omega) hl6 hH).mono ?_
    rintro _ w ⟨rfl, hH⟩
    replace hH := hB2 _ _ hH
    replace hH := hB1 _ _ hH
    refine ⟨_, rfl, fun a hF => J.of hF hH ?_⟩
    refine J.p (PR.move rfl) rfl ?_
    refine J.p (PR.extract rfl rfl) rfl ?_
    refine J.p (PR.extract rfl rfl) rfl ?_
    refine J.p (PR.assign rfl) rfl ?_
    refine J.p (PR.assign rfl) rfl ?_
    refine J.nil ?_
    refine EJ.thenN (hK9 ?_)
    refine CJ.seq fun _ hK10 _ => ?_
    refine CJ.seq fun _ hK11 _ => ?_
    refine CJ.region ?_
    refine J.p (PR.move rfl) rfl ?_
    refine J.p (PR.move rfl) rfl ?_
    refine J.p (PR.neqB u4 rfl rfl) rfl ?_
    refine J.p (PR.move rfl) rfl ?_
    refine J.splitB (jd := 30) rfl (fun hg30 => ?_) (fun hg30 => ?_)
    ·
      try have hg30p := of_decide_eq_true hg30
      refine J.gn rfl rfl rfl hg30 ?_
      refine J.gn rfl rfl rfl hg30 ?_
      refine J.gn rfl rfl rfl hg30 ?_
      refine J.p (PR.pickT rfl hg30 rfl) rfl ?_
      refine J.nil ?_
      refine EJ.thenN (hK11 ?_)
      refine CJ.condT rfl ?_
      refine CJ.seq fun _ hK12 _ => ?_
      refine CJ.region ?_
      refine J.p (PR.assign rfl) rfl ?_
      refine J.nil ?_
      refine EJ.thenN (hK12 ?_)
      refine CJ.ret ?_
      refine EJ.thenR ?_
      refine EJ.ret1 rfl (Res.tmp rfl) fun w hH => ?_
      replace hH := hH.tail
      replace hH := hH.tail
      replace hH := hH.tail
      replace hH := hH.tail
      replace hH := hH.tail
      replace hH := hH.tail
      first | exact ⟨rfl, hH.below⟩ | exact absurd rfl hg30p | exact absurd rfl hg30 | (exfalso; omega) | (simp at hg30; done)
    ·
      try have hg30p := of_decide_eq_false hg30
      refine J.gy (PR.move rfl) rfl rfl rfl hg30 ?_
      refine J.gy (PR.move rfl) rfl rfl rfl hg30 ?_
      refine J.gy (PR.neq rfl rfl) rfl rfl rfl hg30 ?_
      refine J.p (PR.pickF rfl hg30 rfl) rfl ?_
      refine J.nil ?_
      refine EJ.thenN (hK11 ?_)
      refine CJ.condD rfl (fun hc34 => ?_) (fun hc34 => ?_)
      ·
        refine CJ.seq fun _ hK13 _ => ?_
        refine CJ.region ?_
        refine J.p (PR.assign rfl) rfl ?_
        refine J.nil ?_
        refine EJ.thenN (hK13 ?_)
        refine CJ.ret ?_
        refine EJ.thenR ?_
        refine EJ.ret1 rfl (Res.tmp rfl) fun w hH => ?_
        replace hH := hH.tail
        replace hH := hH.tail
        replace hH := hH.tail
        replace hH := hH.tail
        replace hH := hH.tail
        replace hH := hH.tail
        first | exact ⟨rfl, hH.below⟩ | exact absurd rfl hc34p | exact absurd rfl hc34 | (exfalso; omega) | (simp at hc34; done)
      ·
        refine CJ.skip ?_
        refine EJ.thenN (hK10 ?_)
        refine CJ.seq fun _ hK14 _ => ?_
        refine CJ.seq fun _ hK15 _ => ?_
        refine CJ.openR (Rs := [_, _, _, _, _, _]) 5 [[], [], [1], [0, 1, 2], [0, 1, 2, 3]] [[7], [10], [], [2, 5, 6], []] [[], [], [], [], []] rfl rfl (by kernel_rfl) ?_
        apply GJ.st0 1 rfl
        · intro gh; conv => lhs; simp only [slotsZ, zlAt, vs0, resL, at2, eq_self, Nat.reduceEqDiff, reduceIte, Nat.reduceSub, Nat.reduceAdd, List.cons_append, List.nil_append]
          all_goals rfl
        · intro gh X; conv => lhs; simp only [slotsZ, zlAt, vs0, resL, at2, eq_self, Nat.reduceEqDiff, reduceIte, Nat.reduceSub, Nat.reduceAdd, List.cons_append, List.nil_append]
          all_goals rfl
        · intro gh X; conv => lhs; simp only [slotsZ, zlAt, vs0, resL, at2, eq_self, Nat.reduceEqDiff, reduceIte, Nat.reduceSub, Nat.reduceAdd, List.cons_append, List.nil_append]
          all_goals rfl
        ·
          intro gh X K zq zc zq2 zc2 zb zv hK
          refine J.p (PR.loadAll rfl At.z (by simpa [*] using ag41)) rfl ?_
          refine J.nilK ?_
          exact hK zq zc zq2 zc2 zb zv
        ·
          intro gh gh' h
          rfl
        apply GJ.st0 2 rfl
        · intro gh; conv => lhs; simp only [slotsZ, zlAt, vs0, resL, at2, eq_self, Nat.reduceEqDiff, reduceIte, Nat.reduceSub, Nat.reduceAdd, List.cons_append, List.nil_append]
          all_goals rfl
        · intro gh X; conv => lhs; simp only [slotsZ, zlAt, vs0, resL, at2, eq_self, Nat.reduceEqDiff, reduceIte, Nat.reduceSub, Nat.reduceAdd, List.cons_append, List.nil_append]
          all_goals rfl
        · intro gh X; conv => lhs; simp only [slotsZ, zlAt, vs0, resL, at2, eq_self, Nat.reduceEqDiff, reduceIte, Nat.reduceSub, Nat.reduceAdd, List.cons_append, List.nil_append]
          all_goals rfl
        ·
          intro gh X K zq zc zq2 zc2 zb zv hK
          refine J.p (PR.loadAll rfl At.z (by simpa [*] using ag49)) rfl ?_
          refine J.nilK ?_
          exact hK zq zc zq2 zc2 zb zv
        ·
          intro gh gh' h
          rfl
        apply GJ.st2 3 rfl
        · intro gh; conv => lhs; simp only [slotsZ, zlAt, vs0, resL, at2, eq_self, Nat.reduceEqDiff, reduceIte, Nat.reduceSub, Nat.reduceAdd, List.cons_append, List.nil_append]
          all_goals rfl
        · intro gh X; conv => lhs; simp only [slotsZ, zlAt, vs0, resL, at2, eq_self, Nat.reduceEqDiff, reduceIte, Nat.reduceSub, Nat.reduceAdd, List.cons_append, List.nil_append]
          all_goals rfl
        · intro gh X; conv => lhs; simp only [slotsZ, zlAt, vs0, resL, at2, eq_self, Nat.reduceEqDiff, reduceIte, Nat.reduceSub, Nat.reduceAdd, List.cons_append, List.nil_append]
          all_goals rfl
        ·
          intro gh X K zq zc zq2 zc2 zb zv hK
          refine J.call fn35 rfl rfl fun w hH => (toAlgebra_c had haf (by omega) hl6 hH).mono ?_
          rintro _ w ⟨qdo37, cdo37, qfo37, cfo37, vso37, rfl, hH⟩
          refine ⟨_, rfl, fun a hF => J.of hF hH ?_⟩
          refine J.nilK ?_
          exact hK qdo37 cdo37 qfo37 cfo37 zb vso37
        ·
          intro gh gh' h
          refine ⟨?_, ?_, ?_⟩ <;> rfl
        apply GJ.st0 4 rfl
        · intro gh; conv => lhs; simp only [slotsZ, zlAt, vs0, resL, at2, eq_self, Nat.reduceEqDiff, reduceIte, Nat.reduceSub, Nat.reduceAdd, List.cons_append, List.nil_append]
          all_goals rfl
        · intro gh X; conv => lhs; simp only [slotsZ, zlAt, vs0, resL, at2, eq_self, Nat.reduceEqDiff, reduceIte, Nat.reduceSub, Nat.reduceAdd, List.cons_append, List.nil_append]
          all_goals rfl
        · intro gh X; conv => lhs; simp only [slotsZ, zlAt, vs0, resL, at2, eq_self, Nat.reduceEqDiff, reduceIte, Nat.reduceSub, Nat.reduceAdd, List.cons_append, List.nil_append]
          all_goals rfl
        ·
          intro gh X K zq zc zq2 zc2 zb zv hK
          refine J.call fn30 rfl rfl fun w hH => hH.lend (.s (.s .z)) fun Hl1 hle1 hA1 hB1 hH => hH.lend (.s (.s .z)) fun Hl2 hle2 hA2 hB2 hH => hH.lend .z fun Hl3 hle3 hA3 hB3 hH => hH.lend .z fun Hl4 hle4 hA4 hB4 hH => (eqAlgebra_c ((((own_ints hA1).le hle2).le hle3).le hle4) (((own_forms haf.wfss hA2).le hle3).le hle4) ((own_ints hA3).le hle4) (own_forms haf.wfss hA4) (by omega) (by omega) hl hH).mono ?_
          rintro _ w ⟨rfl, hH⟩
          replace hH := hB4 _ _ hH
          replace hH := hB3 _ _ hH
          replace hH := hB2 _ _ hH
          replace hH := hB1 _ _ hH
          refine ⟨_, rfl, fun a hF => J.of hF hH ?_⟩
          refine EJ.front (.s .z) ?_
          refine EJ.front (.s .z) ?_
          refine EJ.front (.s (.s (.s .z))) ?_
          refine EJ.front (.s (.s (.s .z))) ?_
          refine J.nilK ?_
          exact hK zq zc zq2 zc2 zb zv
        ·
          intro gh gh' h
          first | simp only [h 2 rfl] | rfl
        apply GJ.st0 5 rfl
        · intro gh; conv => lhs; simp only [slotsZ, zlAt, vs0, resL, at2, eq_self, Nat.reduceEqDiff, reduceIte, Nat.reduceSub, Nat.reduceAdd, List.cons_append, List.nil_append]
          all_goals rfl
        · intro gh X; conv => lhs; simp only [slotsZ, zlAt, vs0, resL, at2, eq_self, Nat.reduceEqDiff, reduceIte, Nat.reduceSub, Nat.reduceAdd, List.cons_append, List.nil_append]
          all_goals rfl
        · intro gh X; conv => lhs; simp only [slotsZ, zlAt, vs0, resL, at2, eq_self, Nat.reduceEqDiff, reduceIte, Nat.reduceSub, Nat.reduceAdd, List.cons_append, List.nil_append]
          all_goals rfl
        ·
          intro gh X K zq zc zq2 zc2 zb zv hK
          refine J.p (PR.not rfl) rfl ?_
          refine J.nilK ?_
          exact hK zq zc zq2 zc2 zb zv
        ·
          intro gh gh' h
          first | simp only [h 2 rfl] | rfl
        apply GJ.close [0, 1, 2, 3, 4] [0, 1, 2, 3, 4, 5, 6, 7, 8, 9, 10] foll0 rfl rfl rfl (by rfl)
        · intro gh; conv => lhs; simp only [slotsZ, zlAt, vs0, resL, at2, eq_self, Nat.reduceEqDiff, reduceIte, Nat.reduceSub, Nat.reduceAdd, List.cons_append, List.nil_append]
          all_goals rfl
        · intro gh; conv => lhs; simp only [slotsZ, zlAt, vs0, resL, at2, eq_self, Nat.reduceEqDiff, reduceIte, Nat.reduceSub, Nat.reduceAdd, List.cons_append, List.nil_append]
          all_goals rfl
        intro gh
        generalize (gh 2).c = cdo37
        generalize (gh 2).c2 = cfo37
        generalize (gh 2).q = qdo37
        generalize (gh 2).q2 = qfo37
        generalize (gh 2).vs = vso37
        clear gh
        refine EJ.thenN (hK15 ?_)
        refine CJ.cond rfl (fun hc39 => ?_) (fun hc39 => ?_)
        ·
          refine CJ.seq fun _ hK16 _ => ?_
          refine CJ.region ?_
          refine J.p (PR.assign rfl) rfl ?_
          refine J.nil ?_
          refine EJ.thenN (hK16 ?_)
          refine CJ.ret ?_
          refine EJ.thenR ?_
          refine EJ.ret1 rfl (Res.tmp rfl) fun w hH => ?_
          replace hH := hH.tail
          replace hH := hH.tail
          replace hH := hH.tail
          replace hH := hH.tail
          replace hH := hH.tail
          replace hH := hH.tail
          replace hH := hH.tail
          replace hH := hH.tail
          first | exact ⟨rfl, hH.below⟩ | exact absurd rfl hc39p | exact absurd rfl hc39 | (exfalso; omega) | (simp at hc39; done)
        ·
          refine CJ.skip ?_
          refine EJ.thenN (hK14 ?_)
          refine CJ.seq fun _ hK17 _ => ?_
          refine CJ.region ?_
          refine J.p (PR.assign rfl) rfl ?_
          refine J.nil ?_
          refine EJ.thenN (hK17 ?_)
          refine CJ.ret ?_
          refine EJ.ret1 rfl (Res.tmp rfl) fun w hH => ?_
          replace hH := hH.tail
          replace hH := hH.tail
          replace hH := hH.tail
          replace hH := hH.tail
          replace hH := hH.tail
          replace hH := hH.tail
          replace hH := hH.tail
          replace hH := hH.tail
          first | exact ⟨rfl, hH.below⟩ | exact absurd rfl hc39p | exact absurd rfl hc39 | (exfalso; omega) | (simp at hc39; done)
end Go.Proofs.Ytpojpokldncglaa.G
namespace Go.Proofs.Ytpojpokldncglaa.fnExactIsMinimal
open Go.ChangeShapes Go.WideShapes Go.ChangeAt Go.RowKit
open Go.Proofs.Ytpojpokldncglaa.G
theorem u49 : Try.prog.underlying 49 = some (TypeDesc.struct #[{ name := "Degrees", type := 22, offset := 0, embedded := false, tag := "", pkgPath := "", byteOffset := 0 }, { name := "Images", type := 47, offset := 1, embedded := false, tag := "", pkgPath := "", byteOffset := 24 }]) := by kernel_rfl
theorem u22 : Try.prog.underlying 22 = some (TypeDesc.slice 2) := by kernel_rfl
theorem u2 : Try.prog.underlying 2 = some (TypeDesc.int .i64) := by kernel_rfl
theorem u47 : Try.prog.underlying 47 = some (TypeDesc.slice 25) := by kernel_rfl
theorem u25 : Try.prog.underlying 25 = some (TypeDesc.struct #[{ name := "Terms", type := 23, offset := 0, embedded := false, tag := "", pkgPath := "", byteOffset := 0 }]) := by kernel_rfl
theorem u23 : Try.prog.underlying 23 = some (TypeDesc.slice 139) := by kernel_rfl
theorem u139 : Try.prog.underlying 139 = some (TypeDesc.struct #[{ name := "Monomial", type := 85, offset := 0, embedded := false, tag := "", pkgPath := "", byteOffset := 0 }, { name := "Factor", type := 2, offset := 8, embedded := false, tag := "", pkgPath := "", byteOffset := 8 }]) := by kernel_rfl
theorem u85 : Try.prog.underlying 85 = some (TypeDesc.array 8 5) := by kernel_rfl
theorem u5 : Try.prog.underlying 5 = some (TypeDesc.int .u8) := by kernel_rfl
theorem u4 : Try.prog.underlying 4 = some (TypeDesc.bool) := by kernel_rfl
theorem own : ownKnob Try.prog.godebug = none := by kernel_rfl
set_option maxRecDepth 100000 in
theorem lifted (os : Os) (started : os.Started) (H : Type) (enc : TypeId × Value → H) :
    ReturnsInHanded {} Try.checked os 8 .any (Rows.fnExactIsMinimalSpec.pre6 enc Try.prog Try.f8 Rows.fnExactIsMinimalRow.domain false) (Rows.fnExactIsMinimalSpec.post enc Try.prog Try.f8 false true false false) := by
  refine returnsInHanded_of_change_sized (C := Try.checked) own started (by kernel_rfl) Try.func8
    (ChangeSpec.witness6 (enc := enc) (C := Try.checked) false ⟨#[], #[.agg #[.slice none 0 0, .slice none 0 0]], []⟩ 12 (by kernel_rfl) (by kernel_rfl) (by kernel_rfl) (by kernel_rfl)) ?_
  intro W base args ds gs before hval0 hW hcnd hsz0 _
  have hval : ∀ (j : Nat) t v, Try.f8.params[j]? = some t → args[j]? = some v → Value.okWide Try.prog W .any base t v := hval0
  have hW' := hW
  obtain ⟨p, q, hA0, hV, rfl, hfz, hnd⟩ := hW
  have hA : DataW.TrodAll enc Try.prog W 0 (fun _ => true) true Try.f8.params.toList args.toList ds p := hA0
  rw [Try.params8] at hA hval
  obtain ⟨v0, vs0, d0, ds0, p0, q0, hargs, rfl, rfl, h0, r0⟩ := trodAll_cons hA
  obtain ⟨rfl, rfl, rfl⟩ := trodAll_nil r0
  obtain rfl : args = #[v0] := by cases args; simp_all
  obtain ⟨rfl, rfl⟩ := trodVars_none hV
  obtain ⟨q0d, c0d, ds0, q0f, c0f, fs0, rfl, X0, F0, le0, fl0⟩ := openV_alg u49 rfl rfl rfl rfl (by kernel_rfl) (by kernel_rfl) (by kernel_rfl) u22 u2 (by kernel_rfl) u47 (by kernel_rfl) (fun n l y hy => tr_form u25 rfl rfl (by kernel_rfl) (by kernel_rfl) u23 (by kernel_rfl) u139 rfl rfl rfl rfl u85 u5 (by kernel_rfl) (by kernel_rfl) u2 (by kernel_rfl) hy) (hval 0 49 v0 rfl rfl) h0
  clear hA0 hval0 hsz0
  refine ((lawIsMinimal_c X0 F0 le0 fl0 (Hp.start (H := hp W) fun _ _ h => h)).mono fun e W' ⟨he, bel⟩ => ?_)
  subst he
  exact ⟨_, rfl, law_post (f := Try.f8) (by kernel_rfl) (by kernel_rfl) rfl rfl u4 rfl hW' bel⟩
theorem joined : joinedFacts Try.prog 8 Try.f8 Rows.fnExactIsMinimalSpec Rows.fnExactIsMinimalRow = true := by
  unfold joinedFacts
  simp only [Bool.and_eq_true]
  repeat' apply And.intro
  all_goals first
    | with_reducible exact Facts.fEnter
    | with_reducible exact Facts.fLaid
    | with_reducible exact Facts.fMaps
    | with_reducible exact Facts.fHeard
    | (rw [Facts.fMake]; rfl)
    | (rw [Facts.fLift]; rfl)
    | (rw [Facts.fKeys]; rfl)
    | (rw [Facts.fStops]; rfl)
    | (rw [Facts.fStopK]; rfl)
    | as_aux_lemma => kernel_rfl
theorem over : Rows.fnExactIsMinimalRow.holds Try.pinned (OpenSpec.ofChange Rows.fnExactIsMinimalSpec) :=
  OpenClaim.holds_of_wide 8 Try.f8 rfl rfl rfl rfl rfl rfl rfl ⟨rfl, rfl, rfl, rfl, rfl⟩ rfl rfl rfl rfl rfl (by as_aux_lemma => kernel_rfl) Try.func8 joined
    (of_decide_eq_true (by as_aux_lemma => kernel_rfl)) (by unfold Func.isWrapper; first | (rw [if_pos (by decide +kernel)]; kernel_rfl) | (rw [if_neg (by decide +kernel)]; exact ⟨rfl, rfl⟩))
    (fun os started H enc _ => lifted os started H enc)
theorem proved : Rows.FnExactIsMinimalSaid := over
#print axioms proved
end Go.Proofs.Ytpojpokldncglaa.fnExactIsMinimal
namespace Go.Proofs.Ytpojpokldncglaa
theorem fnExactIsMinimal_holds : Rows.FnExactIsMinimalSaid := fnExactIsMinimal.proved
end Go.Proofs.Ytpojpokldncglaa
