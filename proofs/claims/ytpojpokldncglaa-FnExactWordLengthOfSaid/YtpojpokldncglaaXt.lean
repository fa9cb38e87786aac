/- The program's codes; IsClosed and WordLengthOf on both sides. No condition. -/
import Derived.Test.YtpojpokldncglaaGMap
import Derived.Test.YtpojpokldncglaaProg
import Derived.Test.YtpojpokldncglaaWa
import Derived.Test.YtpojpokldncglaaWb
import Derived.Test.YtpojpokldncglaaWc
import Derived.Test.YtpojpokldncglaaWd
import Derived.Test.YtpojpokldncglaaWe
import Derived.Test.YtpojpokldncglaaWf
import Derived.Test.YtpojpokldncglaaWg
import Derived.Test.YtpojpokldncglaaWh
import Derived.Test.YtpojpokldncglaaWi
import Derived.Test.YtpojpokldncglaaWj
import Derived.Test.YtpojpokldncglaaWk
import Derived.Test.YtpojpokldncglaaWl
import Derived.Test.YtpojpokldncglaaWm
import Derived.Test.YtpojpokldncglaaWn
import Derived.Test.YtpojpokldncglaaWo
import Derived.Test.YtpojpokldncglaaWp
import Derived.Test.YtpojpokldncglaaXa
import Derived.Test.YtpojpokldncglaaXb
import Derived.DeepKeys4
import Derived.Test.YtpojpokldncglaaXc
import Derived.Test.YtpojpokldncglaaXd
import Derived.Test.YtpojpokldncglaaXe
import Derived.Test.YtpojpokldncglaaXf
import Derived.Test.YtpojpokldncglaaXg
import Derived.Test.YtpojpokldncglaaXh
import Derived.Test.YtpojpokldncglaaXi
import Derived.Test.YtpojpokldncglaaXj
import Derived.Test.YtpojpokldncglaaXk
import Derived.Test.YtpojpokldncglaaXl
import Derived.Test.YtpojpokldncglaaXm
import Derived.Test.YtpojpokldncglaaXn
import Derived.Test.YtpojpokldncglaaXo
import Derived.Test.YtpojpokldncglaaXp
import Derived.Test.YtpojpokldncglaaXq
import Derived.Test.YtpojpokldncglaaXr
import Derived.Test.YtpojpokldncglaaXs
set_option linter.unusedVariables false
set_option linter.unusedSimpArgs false
namespace Go.Proofs.Ytpojpokldncglaa.G
open Go Go.RowKit
namespace Xt
theorem u114 : Try.prog.underlying 114 = some (TypeDesc.pointer 41) := by kernel_rfl
theorem u22 : Try.prog.underlying 22 = some (TypeDesc.slice 2) := by kernel_rfl
theorem u27 : Try.prog.underlying 27 = some (TypeDesc.slice 88) := by kernel_rfl
theorem u29 : Try.prog.underlying 29 = some (TypeDesc.struct #[{ name := "Terms", type := 27, offset := 0, embedded := false, tag := "", pkgPath := "", byteOffset := 0 }]) := by kernel_rfl
theorem u39 : Try.prog.underlying 39 = some (TypeDesc.slice 29) := by kernel_rfl
theorem u41 : Try.prog.underlying 41 = some (TypeDesc.struct #[{ name := "Degrees", type := 22, offset := 0, embedded := false, tag := "", pkgPath := "", byteOffset := 0 }, { name := "Images", type := 39, offset := 1, embedded := false, tag := "", pkgPath := "", byteOffset := 24 }]) := by kernel_rfl
theorem sz22 : Size Try.prog 22 1 := by unfold Size; kernel_rfl
theorem sz29 : Size Try.prog 29 1 := by unfold Size; kernel_rfl
theorem ze29 : Zero Try.prog 29 [.slice none 0 0] := by unfold Zero; kernel_rfl
theorem pl114 : Plain Try.prog 114 := ⟨_, u114, rfl⟩
theorem pl22 : Plain Try.prog 22 := ⟨_, u22, rfl⟩
theorem pl27 : Plain Try.prog 27 := ⟨_, u27, rfl⟩
theorem ag29 : Agg Try.prog 29 1 := ⟨_, u29, rfl, by kernel_rfl⟩
theorem ag41 : Agg Try.prog 41 2 := ⟨_, u41, rfl, by kernel_rfl⟩
theorem fn100 : Fn Try.prog 100 := ⟨_, Try.func100, by kernel_rfl, rfl⟩
theorem fn101 : Fn Try.prog 101 := ⟨_, Try.func101, by kernel_rfl, rfl⟩
theorem fn102 : Fn Try.prog 102 := ⟨_, Try.func102, by kernel_rfl, rfl⟩
theorem fn152 : Fn Try.prog 152 := ⟨_, Try.func152, by kernel_rfl, rfl⟩
theorem fn36 : Fn Try.prog 36 := ⟨_, Try.func36, by kernel_rfl, rfl⟩
theorem fn75 : Fn Try.prog 75 := ⟨_, Try.func75, by kernel_rfl, rfl⟩
theorem fn91 : Fn Try.prog 91 := ⟨_, Try.func91, by kernel_rfl, rfl⟩
theorem fn93 : Fn Try.prog 93 := ⟨_, Try.func93, by kernel_rfl, rfl⟩
theorem fn97 : Fn Try.prog 97 := ⟨_, Try.func97, by kernel_rfl, rfl⟩
theorem fn98 : Fn Try.prog 98 := ⟨_, Try.func98, by kernel_rfl, rfl⟩
theorem fn99 : Fn Try.prog 99 := ⟨_, Try.func99, by kernel_rfl, rfl⟩
theorem foll0 : Try.prog.follows .mixedOrders = true := by kernel_rfl
end Xt
open Xt

def codeA (ds : List Int) (fs : List (List Term)) (gs : List (List Term)) : Int := if isAlg ds fs && gs.all (isForm ds) then 0 else 1
theorem any_no {ds : List Int} : ∀ gs : List (List Term), (gs.any fun ts => !(isForm ds ts)) = !(gs.all (isForm ds))
  | [] => rfl
  | g :: gs => by simp only [List.any_cons, List.all_cons, any_no gs, Bool.not_and]
theorem codeA_one (ds : List Int) (fs : List (List Term)) (ts : List Term) : codeA ds fs [ts] = bothC ds fs ts := by unfold codeA bothC; simp
theorem bothC_ne {ds : List Int} {fs : List (List Term)} {ts : List Term} (h : bothC ds fs ts ≠ 0) : (isAlg ds fs && isForm ds ts) = false := by
  unfold bothC at h
  cases e : (isAlg ds fs && isForm ds ts) with
  | false => rfl
  | true => rw [e, if_pos rfl] at h; exact absurd rfl h
theorem bothC_eq {ds : List Int} {fs : List (List Term)} {ts : List Term} (h : ¬ bothC ds fs ts ≠ 0) : (isAlg ds fs && isForm ds ts) = true := by
  unfold bothC at h
  cases e : (isAlg ds fs && isForm ds ts) with
  | true => rfl
  | false => rw [e] at h; exact absurd (by decide) h
theorem forms_one {H : HP} {g : Nat} {q : Option Addr} {c : Nat} {ts : List Term} (h : cellO H (some ⟨g, 0, none⟩) 0 = some (.slice q ts.length c)) (hc : ts.length ≤ c) (ht : Terms H q ts) : Forms H (some ⟨g, 0, none⟩) [ts] := fun i hi => by
  obtain rfl : i = 0 := by simp at hi; omega
  exact ⟨q, c, h, hc, ht⟩
theorem len_one {ts : List Term} {M : Nat} (h : ts.length ≤ M) : ∀ i, i < [ts].length → (fm [ts] i).length ≤ M := fun i hi => by
  obtain rfl : i = 0 := by simp at hi; omega
  exact h

set_option maxRecDepth 10000 in
theorem algebraCode1_c {B : World} {H0 H : HP} {L : List SA} {w : World} {qts : Option Addr} {cts : Nat} {ts : List Term} {bba : Nat} {ba : Nat} {qad qaf : Option Addr} {cad caf : Nat} {ad : List Int} {af : List (List Term)}  (hts : Terms H qts ts) (kba : cellO H (some ⟨bba, 0, none⟩) 0 = some (.pointer (some ⟨ba, 0, none⟩))) (pad : CellAt H ba 0 (.slice qad ad.length cad)) (paf : CellAt H ba 1 (.slice qaf af.length caf)) (had : Ints H qad ad) (haf : Forms H qaf af) (hn8 : ad.length ≤ 1048576) (hlt : ts.length ≤ 9223372036854775807) (hH : Hp B H0 H L w) :
    Calls Try.prog 152 [.agg [.slice qts ts.length cts].toArray, .pointer (some ⟨bba, 0, none⟩)].toArray w fun e w' => e = .returned (.bool (!(isForm ad ts))) ∧ Hp B H0 H L w' := by
  refine CJ.enter Try.func152 rfl 11 rfl rfl [(0, .agg [.slice qts ts.length cts].toArray), (1, .pointer (some ⟨bba, 0, none⟩))] rfl hH ?_
  clear hH
  refine CJ.seq fun _ hK1 _ => ?_
  refine CJ.region ?_
  refine J.box rfl rfl rfl fun g2 => ?_
  refine J.p (PR.assign rfl) rfl ?_
  refine J.nil ?_
  refine EJ.thenN (hK1 ?_)
  refine CJ.seq fun _ hK2 _ => ?_
  refine CJ.head [[], [0], [1], [2], []] (by kernel_rfl) ?_
  refine HJ.op (fun gh => PR.loadH (q := some ⟨bba, 0, none⟩) (k := 0) rfl kba pl114) ?_
  refine HJ.op (fun gh => PR.nilCheck rfl) ?_
  refine HJ.op (fun gh => PR.fldA u41 rfl sz22 rfl) ?_
  refine HJ.op (fun gh => PR.loadH (q := some ⟨ba, 0, none⟩) (k := 0) rfl pad pl22) ?_
  refine HJ.op (fun gh => PR.loadAll rfl At.z (by simpa [*] using ag29)) ?_
  refine HJ.close 5 1 foll0 (by kernel_rfl) rfl rfl fun gh => ?_
  refine J.conv (us' := (4, _) :: (5, _) :: (6, _) :: (7, _) :: (8, _) :: _) (L' := _) rfl rfl ?_
  refine J.call fn91 rfl rfl fun w hH => (isForm_c had hts hn8 hlt hH).mono ?_
  rintro _ w ⟨rfl, hH⟩
  refine ⟨_, rfl, fun a hF => J.of hF hH ?_⟩
  refine J.nil ?_
  refine EJ.still ?_
  refine JS.op (PR.not rfl) rfl ?_
  refine JS.op (PR.assign rfl) rfl ?_
  refine JS.nil ?_
  refine EJ.thenN (hK2 ?_)
  refine CJ.ret ?_
  refine EJ.ret1 rfl (Res.tmp rfl) fun w hH => ?_
  replace hH := hH.tail
  exact ⟨rfl, hH⟩
set_option maxRecDepth 10000 in
theorem algebraCode_c {B : World} {H0 H : HP} {L : List SA} {w : World} {ba : Nat} {qad qaf : Option Addr} {cad caf : Nat} {ad : List Int} {af : List (List Term)} {qfs : Option Addr} {cfs : Nat} {fs : List (List Term)}  (pad : CellAt H ba 0 (.slice qad ad.length cad)) (paf : CellAt H ba 1 (.slice qaf af.length caf)) (had : Ints H qad ad) (haf : Forms H qaf af) (hfs : Forms H qfs fs) (hn8 : ad.length ≤ 1048576) (hn9 : af.length ≤ 1048576) (hl9 : ∀ i, i < af.length → (fm af i).length ≤ 1048576) (hnf : fs.length ≤ 9223372036854775807) (hlf : ∀ i, i < fs.length → (fm fs i).length ≤ 9223372036854775807) (hH : Hp B H0 H L w) :
    Calls Try.prog 99 [.pointer (some ⟨ba, 0, none⟩), .slice qfs fs.length cfs].toArray w fun e w' => e = .returned (.int .i64 (codeA ad af fs)) ∧ Hp B H0 H L w' := by
  refine CJ.enter Try.func99 rfl 18 rfl rfl [(0, .pointer (some ⟨ba, 0, none⟩)), (1, .slice qfs fs.length cfs)] rfl hH ?_
  have hw0 := hH.old
  have hw1 := hH.le
  clear hH
  refine CJ.seq fun _ hK1 _ => ?_
  refine CJ.region ?_
  refine J.box rfl rfl rfl fun g2 => ?_
  refine J.p (PR.assign rfl) rfl ?_
  refine J.nil ?_
  refine EJ.thenN (hK1 ?_)
  refine CJ.seq fun _ hK2 _ => ?_
  refine CJ.region ?_
  refine J.p (PR.load rfl At.z rfl pl114) rfl ?_
  refine J.p (PR.nilCheck rfl) rfl ?_
  refine J.p (PR.loadHb rfl pad paf ag41) rfl ?_
  refine J.call fn36 rfl rfl fun w hH => (IsAlgebra_c had haf hn8 hn9 hl9 hH).mono ?_
  rintro _ w ⟨rfl, hH⟩
  refine ⟨_, rfl, fun a hF => J.of hF hH ?_⟩
  refine J.p (PR.not rfl) rfl ?_
  refine J.p (PR.move rfl) rfl ?_
  refine J.splitB (jd := 11) rfl (fun h11 => ?_) (fun h11 => ?_)
  ·
    try have h11p := of_decide_eq_true h11
    refine J.gn rfl rfl rfl h11 ?_
    refine J.gn rfl rfl rfl h11 ?_
    refine J.gn rfl rfl rfl h11 ?_
    refine J.p (PR.pickT rfl h11 rfl) rfl ?_
    refine J.p (PR.assign rfl) rfl ?_
    refine J.nil ?_
    refine EJ.thenN (hK2 ?_)
    refine CJ.seq fun _ hK3 _ => ?_
    refine CJ.region ?_
    refine J.p (PR.move rfl) rfl ?_
    refine J.call fn75 rfl rfl fun w hH => (when_c  hH).mono ?_
    rintro _ w ⟨rfl, hH⟩
    refine ⟨_, rfl, fun a hF => J.of hF hH ?_⟩
    refine J.p (PR.assign rfl) rfl ?_
    refine J.nil ?_
    refine EJ.thenN (hK3 ?_)
    refine CJ.ret ?_
    refine EJ.ret1 rfl (Res.tmp rfl) fun w hH => ?_
    replace hH := hH.tail
    exact ⟨ri (by unfold codeA; rw [show isAlg ad af = false by simpa using h11]; rfl), hH⟩
  ·
    try have h11p := of_decide_eq_false h11
    refine J.gy (PR.move rfl) rfl rfl rfl h11 ?_
    refine J.gy (PR.makeFunc (ys := []) (zs := [_]) rfl rfl) rfl rfl rfl h11 ?_
    refine J.freezeRow .z fun H3 hle3 hc3 => ?_
    have hfs3 := hfs.le hle3
    have hcl : ClF B H0 H3 152 #[.pointer (some ⟨g2, 0, none⟩)] (fun ts => ts.length ≤ 9223372036854775807) (fun ts => !(isForm ad ts)) := fun H' L w q c x hle hS hx hH => algebraCode1_c hx (cellO_le hle (hc3 0 _ rfl)) (pad.le (hle3.trans hle)) (paf.le (hle3.trans hle)) (had.le (hle3.trans hle)) (haf.le (hle3.trans hle)) hn8 hS hH
    refine J.gcall fn93 rfl rfl h11 rfl rfl fun w hH => (ContainsFuncF_c hfs3 fn152 hcl hnf hlf hH).mono ?_
    rintro _ w ⟨rfl, hH⟩
    refine ⟨_, rfl, fun a hF => J.of hF hH ?_⟩
    refine J.p (PR.pickF rfl h11 rfl) rfl ?_
    refine J.p (PR.assign rfl) rfl ?_
    refine J.nil ?_
    refine EJ.thenN (hK2 ?_)
    refine CJ.seq fun _ hK4 _ => ?_
    refine CJ.region ?_
    refine J.p (PR.move rfl) rfl ?_
    refine J.call fn75 rfl rfl fun w hH => (when_c  hH).mono ?_
    rintro _ w ⟨rfl, hH⟩
    refine ⟨_, rfl, fun a hF => J.of hF hH ?_⟩
    refine J.p (PR.assign rfl) rfl ?_
    refine J.nil ?_
    refine EJ.thenN (hK4 ?_)
    refine CJ.ret ?_
    refine EJ.ret1 rfl (Res.tmp rfl) fun w hH => ?_
    exact ⟨ri (by unfold codeA; rw [show isAlg ad af = true by simpa using h11, any_no]; cases fs.all (isForm ad) <;> rfl), hH.weaken hle3 hw0 hw1⟩

def wlen (ds : List Int) (fs : List (List Term)) (ts : List Term) : Int := if isAlg ds fs && isForm ds ts then least ts ts.length else 0
theorem tup_bi {a b : Bool} {x y : Int} (h1 : a = b) (h2 : x = y) : Ending.returned (.tuple #[.bool a, .int .i64 x]) = .returned (.tuple #[.bool b, .int .i64 y]) := by rw [h1, h2]
theorem tup_ii {a b : Int} {x y : Int} (h1 : a = b) (h2 : x = y) : Ending.returned (.tuple #[.int .i64 a, .int .i64 x]) = .returned (.tuple #[.int .i64 b, .int .i64 y]) := by rw [h1, h2]
theorem bothC_z {ds : List Int} {fs : List (List Term)} {ts : List Term} (h : ¬ bothC ds fs ts ≠ 0) : 0 = bothC ds fs ts := by omega

set_option maxRecDepth 10000 in
theorem sIsClosed_c {B : World} {H0 H : HP} {L : List SA} {w : World} {qad qaf : Option Addr} {cad caf : Nat} {ad : List Int} {af : List (List Term)} {qts : Option Addr} {cts : Nat} {ts : List Term}  (had : Ints H qad ad) (haf : Forms H qaf af) (hts : Terms H qts ts) (hn8 : ad.length ≤ 1048576) (hn9 : af.length ≤ 1048576) (hl9 : ∀ i, i < af.length → (fm af i).length ≤ 1048576) (hlt : ts.length ≤ 9223372036854775807) (hcq : ts.length ≤ cts) (hH : Hp B H0 H L w) :
    Calls Try.prog 37 [.agg [.slice qad ad.length cad, .slice qaf af.length caf].toArray, .agg [.slice qts ts.length cts].toArray].toArray w fun e w' => e = .returned (.tuple #[.bool (closedB ad af ts), .int .i64 (bothC ad af ts)]) ∧ Hp B H0 H L w' := by
  refine CJ.enter Try.func37 rfl 19 rfl rfl [(0, .agg [.slice qad ad.length cad, .slice qaf af.length caf].toArray), (1, .agg [.slice qts ts.length cts].toArray)] rfl hH ?_
  clear hH
  refine CJ.seq fun _ hK1 _ => ?_
  refine CJ.region ?_
  refine J.box rfl rfl rfl fun g2 => ?_
  refine J.box rfl rfl rfl fun g3 => ?_
  refine J.p (PR.assign rfl) rfl ?_
  refine J.p (PR.assign rfl) rfl ?_
  refine J.nil ?_
  refine EJ.thenN (hK1 ?_)
  refine CJ.seq fun _ hK2 _ => ?_
  refine CJ.seq fun _ hK3 _ => ?_
  refine CJ.region ?_
  refine J.p (PR.loadAll rfl (.s .z) (by simpa [*] using ag41)) rfl ?_
  refine J.p (PR.loadAll rfl At.z (by simpa [*] using ag29)) rfl ?_
  refine J.call fn97 rfl rfl fun w hH => (l02Both_c had haf hts hn8 hn9 hl9 hlt hH).mono ?_
  rintro _ w ⟨rfl, hH⟩
  refine ⟨_, rfl, fun a hF => J.of hF hH ?_⟩
  refine J.p (PR.assign rfl) rfl ?_
  refine J.nil ?_
  refine EJ.thenN (hK3 ?_)
  refine CJ.seq fun _ hK4 _ => ?_
  refine CJ.region ?_
  refine J.p (PR.move rfl) rfl ?_
  refine J.p (PR.neq rfl rfl) rfl ?_
  refine J.nil ?_
  refine EJ.thenN (hK4 ?_)
  refine CJ.condD rfl (fun h11 => ?_) (fun h11 => ?_)
  ·
    refine CJ.seq fun _ hK5 _ => ?_
    refine CJ.region ?_
    refine J.p (PR.move rfl) rfl ?_
    refine J.p (PR.assign rfl) rfl ?_
    refine J.p (PR.assign rfl) rfl ?_
    refine J.nil ?_
    refine EJ.thenN (hK5 ?_)
    refine CJ.ret ?_
    refine EJ.thenR ?_
    refine EJ.ret2 rfl (Res.tmp rfl) (Res.tmp rfl) fun w hH => ?_
    replace hH := hH.tail
    replace hH := hH.tail
    exact ⟨tup_bi (by unfold closedB; rw [bothC_ne h11]; rfl) rfl, hH⟩
  ·
    have hAF := Bool.and_eq_true_iff.1 (bothC_eq h11)
    have hA := isAlg_ok hAF.1 haf.wfss
    have hF := hAF.2
    have hF4 := isForm_len4 hF
    have hFs9 := isForm_sok hts.wfs hF
    have hFk := isForm_kex hA.hd hA.hn hts.wfs hF
    refine CJ.skip ?_
    refine EJ.thenN (hK2 ?_)
    refine CJ.seq fun _ hK6 _ => ?_
    refine CJ.region ?_
    refine J.p (PR.loadAll rfl (.s .z) (by simpa [*] using ag41)) rfl ?_
    refine J.p (PR.loadAll rfl At.z (by simpa [*] using ag29)) rfl ?_
    refine J.call fn98 rfl rfl fun w hH => (l02D_c had haf hts hA.hn hA.hd hA.fok hA.hl hA.kex hFs9 hFk (by omega) hA.len (by omega) hH).mono ?_
    rintro _ w ⟨qo15, co15, rfl, hH⟩
    refine ⟨_, rfl, fun a hF => J.of hF hH ?_⟩
    refine J.p (PR.fieldV u29 rfl pl27 rfl rfl) rfl ?_
    refine J.p (PR.lenSlice u27 rfl rfl) rfl ?_
    refine J.p (PR.eql rfl rfl) rfl ?_
    refine J.p (PR.assign rfl) rfl ?_
    refine J.p (PR.assign rfl) rfl ?_
    refine J.nil ?_
    refine EJ.thenN (hK6 ?_)
    refine CJ.ret ?_
    refine EJ.ret2 rfl (Res.tmp rfl) (Res.tmp rfl) fun w hH => ?_
    replace hH := hH.tail
    replace hH := hH.tail
    replace hH := hH.tail
    exact ⟨tup_bi (by unfold closedB; rw [bothC_eq h11, ofS_len, Bool.true_and]; exact decide_eq_decide.2 (by omega)) (bothC_z h11), hH⟩
set_option maxRecDepth 10000 in
theorem sWordLengthOf_c {B : World} {H0 H : HP} {L : List SA} {w : World} {qad qaf : Option Addr} {cad caf : Nat} {ad : List Int} {af : List (List Term)} {qts : Option Addr} {cts : Nat} {ts : List Term}  (had : Ints H qad ad) (haf : Forms H qaf af) (hts : Terms H qts ts) (hn8 : ad.length ≤ 1048576) (hn9 : af.length ≤ 1048576) (hl9 : ∀ i, i < af.length → (fm af i).length ≤ 1048576) (hlt : ts.length ≤ 9223372036854775807) (hcq : ts.length ≤ cts) (hH : Hp B H0 H L w) :
    Calls Try.prog 39 [.agg [.slice qad ad.length cad, .slice qaf af.length caf].toArray, .agg [.slice qts ts.length cts].toArray].toArray w fun e w' => e = .returned (.tuple #[.int .i64 (wlen ad af ts), .int .i64 (bothC ad af ts)]) ∧ Hp B H0 H L w' := by
  refine CJ.enter Try.func39 rfl 15 rfl rfl [(0, .agg [.slice qad ad.length cad, .slice qaf af.length caf].toArray), (1, .agg [.slice qts ts.length cts].toArray)] rfl hH ?_
  clear hH
  refine CJ.seq fun _ hK1 _ => ?_
  refine CJ.region ?_
  refine J.box rfl rfl rfl fun g2 => ?_
  refine J.box rfl rfl rfl fun g3 => ?_
  refine J.p (PR.assign rfl) rfl ?_
  refine J.p (PR.assign rfl) rfl ?_
  refine J.nil ?_
  refine EJ.thenN (hK1 ?_)
  refine CJ.seq fun _ hK2 _ => ?_
  refine CJ.seq fun _ hK3 _ => ?_
  refine CJ.region ?_
  refine J.p (PR.loadAll rfl (.s .z) (by simpa [*] using ag41)) rfl ?_
  refine J.p (PR.loadAll rfl At.z (by simpa [*] using ag29)) rfl ?_
  refine J.call fn97 rfl rfl fun w hH => (l02Both_c had haf hts hn8 hn9 hl9 hlt hH).mono ?_
  rintro _ w ⟨rfl, hH⟩
  refine ⟨_, rfl, fun a hF => J.of hF hH ?_⟩
  refine J.p (PR.assign rfl) rfl ?_
  refine J.nil ?_
  refine EJ.thenN (hK3 ?_)
  refine CJ.seq fun _ hK4 _ => ?_
  refine CJ.region ?_
  refine J.p (PR.move rfl) rfl ?_
  refine J.p (PR.neq rfl rfl) rfl ?_
  refine J.nil ?_
  refine EJ.thenN (hK4 ?_)
  refine CJ.condD rfl (fun h11 => ?_) (fun h11 => ?_)
  ·
    refine CJ.seq fun _ hK5 _ => ?_
    refine CJ.region ?_
    refine J.p (PR.move rfl) rfl ?_
    refine J.p (PR.assign rfl) rfl ?_
    refine J.p (PR.assign rfl) rfl ?_
    refine J.nil ?_
    refine EJ.thenN (hK5 ?_)
    refine CJ.ret ?_
    refine EJ.thenR ?_
    refine EJ.ret2 rfl (Res.tmp rfl) (Res.tmp rfl) fun w hH => ?_
    replace hH := hH.tail
    replace hH := hH.tail
    exact ⟨tup_ii (by unfold wlen; rw [bothC_ne h11]; rfl) rfl, hH⟩
  ·
    refine CJ.skip ?_
    refine EJ.thenN (hK2 ?_)
    refine CJ.seq fun _ hK6 _ => ?_
    refine CJ.region ?_
    refine J.p (PR.loadAll rfl At.z (by simpa [*] using ag29)) rfl ?_
    refine J.call fn101 rfl rfl fun w hH => (l02Least_c hts hlt hH).mono ?_
    rintro _ w ⟨rfl, hH⟩
    refine ⟨_, rfl, fun a hF => J.of hF hH ?_⟩
    refine J.p (PR.assign rfl) rfl ?_
    refine J.p (PR.assign rfl) rfl ?_
    refine J.nil ?_
    refine EJ.thenN (hK6 ?_)
    refine CJ.ret ?_
    refine EJ.ret2 rfl (Res.tmp rfl) (Res.tmp rfl) fun w hH => ?_
    replace hH := hH.tail
    replace hH := hH.tail
    exact ⟨tup_ii (by unfold wlen; rw [bothC_eq h11]; rfl) (bothC_z h11), hH⟩
set_option maxRecDepth 10000 in
theorem IsClosed_c {B : World} {H0 H : HP} {L : List SA} {w : World} {qad qaf : Option Addr} {cad caf : Nat} {ad : List Int} {af : List (List Term)} {qts : Option Addr} {cts : Nat} {ts : List Term}  (had : Ints H qad ad) (haf : Forms H qaf af) (hts : Terms H qts ts) (hn8 : ad.length ≤ 1048576) (hn9 : af.length ≤ 1048576) (hl9 : ∀ i, i < af.length → (fm af i).length ≤ 1048576) (hlt : ts.length ≤ 9223372036854775807) (hcq : ts.length ≤ cts) (hH : Hp B H0 H L w) :
    Calls Try.prog 38 [.agg [.slice qad ad.length cad, .slice qaf af.length caf].toArray, .agg [.slice qts ts.length cts].toArray].toArray w fun e w' => e = .returned (.tuple #[.bool (closedB ad af ts), .int .i64 (bothC ad af ts)]) ∧ Hp B H0 H L w' := by
  refine CJ.enter Try.func38 rfl 15 rfl rfl [(0, .agg [.slice qad ad.length cad, .slice qaf af.length caf].toArray), (1, .agg [.slice qts ts.length cts].toArray)] rfl hH ?_
  have hw0 := hH.old
  have hw1 := hH.le
  clear hH
  refine CJ.seq fun _ hK1 _ => ?_
  refine CJ.region ?_
  refine J.box rfl rfl rfl fun g2 => ?_
  refine J.box rfl rfl rfl fun g3 => ?_
  refine J.p (PR.assign rfl) rfl ?_
  refine J.p (PR.assign rfl) rfl ?_
  refine J.nil ?_
  refine EJ.thenN (hK1 ?_)
  refine CJ.seq fun _ hK2 _ => ?_
  refine CJ.seq fun _ hK3 _ => ?_
  refine CJ.region ?_
  refine J.p (PR.loadAll rfl At.z (by simpa [*] using ag29)) rfl ?_
  refine J.lit1 u39 ze29 sz29 rfl rfl rfl rfl rfl rfl fun g8 => ?_
  refine J.freezeRow .z fun H8 hle8 hc8 => ?_
  replace had := had.le hle8
  replace haf := haf.le hle8
  replace hts := hts.le hle8
  refine J.freezeRow (.s .z) fun H2 hle2 hc2 => ?_
  replace had := had.le hle2
  replace haf := haf.le hle2
  replace hts := hts.le hle2
  have hFs := forms_one (cellO_le hle2 (hc8 0 _ rfl)) hcq hts
  have pad : CellAt H2 g2 0 (.slice qad ad.length cad) := hc2 0 _ rfl
  have paf : CellAt H2 g2 1 (.slice qaf af.length caf) := hc2 1 _ rfl
  refine J.call fn99 rfl rfl fun w hH => (algebraCode_c pad paf had haf hFs hn8 hn9 hl9 (by simp) (len_one hlt) hH).mono ?_
  rintro _ w ⟨rfl, hH⟩
  refine ⟨_, rfl, fun a hF => J.of hF hH ?_⟩
  refine J.p (PR.assign rfl) rfl ?_
  refine J.nil ?_
  refine EJ.thenN (hK3 ?_)
  refine CJ.seq fun _ hK4 _ => ?_
  refine CJ.region ?_
  refine J.p (PR.move rfl) rfl ?_
  refine J.p (PR.neq rfl rfl) rfl ?_
  refine J.nil ?_
  refine EJ.thenN (hK4 ?_)
  refine CJ.condD rfl (fun h11 => ?_) (fun h11 => ?_)
  ·
    rw [codeA_one] at h11 ⊢
    refine CJ.seq fun _ hK5 _ => ?_
    refine CJ.region ?_
    refine J.p (PR.move rfl) rfl ?_
    refine J.p (PR.assign rfl) rfl ?_
    refine J.p (PR.assign rfl) rfl ?_
    refine J.nil ?_
    refine EJ.thenN (hK5 ?_)
    refine CJ.ret ?_
    refine EJ.thenR ?_
    refine EJ.ret2 rfl (Res.tmp rfl) (Res.tmp rfl) fun w hH => ?_
    replace hH := hH.tail
    exact ⟨tup_bi (by unfold closedB; rw [bothC_ne h11]; rfl) rfl, hH.weaken (hle8.trans hle2) hw0 hw1⟩
  ·
    rw [codeA_one] at h11
    have hAF := Bool.and_eq_true_iff.1 (bothC_eq h11)
    have hA := isAlg_ok hAF.1 haf.wfss
    have hF := hAF.2
    have hF4 := isForm_len4 hF
    have hFs9 := isForm_sok hts.wfs hF
    have hFk := isForm_kex hA.hd hA.hn hts.wfs hF
    refine CJ.skip ?_
    refine EJ.thenN (hK2 ?_)
    refine CJ.seq fun _ hK6 _ => ?_
    refine CJ.region ?_
    refine J.p (PR.loadAll rfl At.z (by simpa [*] using ag29)) rfl ?_
    refine J.call fn100 rfl rfl fun w hH => (isClosed_c pad paf had haf hts hA.hn hA.hd hA.fok hA.hl hFs9 (Ex.occ hFk hA.hl) (by omega) (by omega) hH).mono ?_
    rintro _ w ⟨rfl, hH⟩
    refine ⟨_, rfl, fun a hF => J.of hF hH ?_⟩
    refine J.p (PR.assign rfl) rfl ?_
    refine J.p (PR.assign rfl) rfl ?_
    refine J.nil ?_
    refine EJ.thenN (hK6 ?_)
    refine CJ.ret ?_
    refine EJ.ret2 rfl (Res.tmp rfl) (Res.tmp rfl) fun w hH => ?_
    replace hH := hH.tail
    exact ⟨tup_bi (by unfold closedB; rw [bothC_eq h11, Bool.true_and]) (bothC_z h11), hH.weaken (hle8.trans hle2) hw0 hw1⟩
set_option maxRecDepth 10000 in
theorem WordLengthOf_c {B : World} {H0 H : HP} {L : List SA} {w : World} {qad qaf : Option Addr} {cad caf : Nat} {ad : List Int} {af : List (List Term)} {qts : Option Addr} {cts : Nat} {ts : List Term}  (had : Ints H qad ad) (haf : Forms H qaf af) (hts : Terms H qts ts) (hn8 : ad.length ≤ 1048576) (hn9 : af.length ≤ 1048576) (hl9 : ∀ i, i < af.length → (fm af i).length ≤ 1048576) (hlt : ts.length ≤ 9223372036854775807) (hcq : ts.length ≤ cts) (hH : Hp B H0 H L w) :
    Calls Try.prog 40 [.agg [.slice qad ad.length cad, .slice qaf af.length caf].toArray, .agg [.slice qts ts.length cts].toArray].toArray w fun e w' => e = .returned (.tuple #[.int .i64 (wlen ad af ts), .int .i64 (bothC ad af ts)]) ∧ Hp B H0 H L w' := by
  refine CJ.enter Try.func40 rfl 15 rfl rfl [(0, .agg [.slice qad ad.length cad, .slice qaf af.length caf].toArray), (1, .agg [.slice qts ts.length cts].toArray)] rfl hH ?_
  have hw0 := hH.old
  have hw1 := hH.le
  clear hH
  refine CJ.seq fun _ hK1 _ => ?_
  refine CJ.region ?_
  refine J.box rfl rfl rfl fun g2 => ?_
  refine J.box rfl rfl rfl fun g3 => ?_
  refine J.p (PR.assign rfl) rfl ?_
  refine J.p (PR.assign rfl) rfl ?_
  refine J.nil ?_
  refine EJ.thenN (hK1 ?_)
  refine CJ.seq fun _ hK2 _ => ?_
  refine CJ.seq fun _ hK3 _ => ?_
  refine CJ.region ?_
  refine J.p (PR.loadAll rfl At.z (by simpa [*] using ag29)) rfl ?_
  refine J.lit1 u39 ze29 sz29 rfl rfl rfl rfl rfl rfl fun g8 => ?_
  refine J.freezeRow .z fun H8 hle8 hc8 => ?_
  replace had := had.le hle8
  replace haf := haf.le hle8
  replace hts := hts.le hle8
  refine J.freezeRow (.s .z) fun H2 hle2 hc2 => ?_
  replace had := had.le hle2
  replace haf := haf.le hle2
  replace hts := hts.le hle2
  have hFs := forms_one (cellO_le hle2 (hc8 0 _ rfl)) hcq hts
  have pad : CellAt H2 g2 0 (.slice qad ad.length cad) := hc2 0 _ rfl
  have paf : CellAt H2 g2 1 (.slice qaf af.length caf) := hc2 1 _ rfl
  refine J.call fn99 rfl rfl fun w hH => (algebraCode_c pad paf had haf hFs hn8 hn9 hl9 (by simp) (len_one hlt) hH).mono ?_
  rintro _ w ⟨rfl, hH⟩
  refine ⟨_, rfl, fun a hF => J.of hF hH ?_⟩
  refine J.p (PR.assign rfl) rfl ?_
  refine J.nil ?_
  refine EJ.thenN (hK3 ?_)
  refine CJ.seq fun _ hK4 _ => ?_
  refine CJ.region ?_
  refine J.p (PR.move rfl) rfl ?_
  refine J.p (PR.neq rfl rfl) rfl ?_
  refine J.nil ?_
  refine EJ.thenN (hK4 ?_)
  refine CJ.condD rfl (fun h11 => ?_) (fun h11 => ?_)
  ·
    rw [codeA_one] at h11 ⊢
    refine CJ.seq fun _ hK5 _ => ?_
    refine CJ.region ?_
    refine J.p (PR.move rfl) rfl ?_
    refine J.p (PR.assign rfl) rfl ?_
    refine J.p (PR.assign rfl) rfl ?_
    refine J.nil ?_
    refine EJ.thenN (hK5 ?_)
    refine CJ.ret ?_
    refine EJ.thenR ?_
    refine EJ.ret2 rfl (Res.tmp rfl) (Res.tmp rfl) fun w hH => ?_
    replace hH := hH.tail
    exact ⟨tup_ii (by unfold wlen; rw [bothC_ne h11]; rfl) rfl, hH.weaken (hle8.trans hle2) hw0 hw1⟩
  ·
    rw [codeA_one] at h11
    refine CJ.skip ?_
    refine EJ.thenN (hK2 ?_)
    refine CJ.seq fun _ hK6 _ => ?_
    refine CJ.region ?_
    refine J.p (PR.loadAll rfl At.z (by simpa [*] using ag29)) rfl ?_
    refine J.call fn102 rfl rfl fun w hH => (wordLength_c hts hlt hH).mono ?_
    rintro _ w ⟨rfl, hH⟩
    refine ⟨_, rfl, fun a hF => J.of hF hH ?_⟩
    refine J.p (PR.assign rfl) rfl ?_
    refine J.p (PR.assign rfl) rfl ?_
    refine J.nil ?_
    refine EJ.thenN (hK6 ?_)
    refine CJ.ret ?_
    refine EJ.ret2 rfl (Res.tmp rfl) (Res.tmp rfl) fun w hH => ?_
    replace hH := hH.tail
    exact ⟨tup_ii (by unfold wlen; rw [bothC_eq h11]; rfl) (bothC_z h11), hH.weaken (hle8.trans hle2) hw0 hw1⟩
end Go.Proofs.Ytpojpokldncglaa.G
