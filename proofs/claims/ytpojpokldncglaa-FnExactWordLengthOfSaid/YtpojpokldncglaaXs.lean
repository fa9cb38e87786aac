/- An algebra and a form: closed, word lengths. No condition. -/
import Derived.Test.YtpojpokldncglaaGMap
import Derived.Test.YtpojpokldncglaaProg
import Derived.Test.YtpojpokldncglaaWa
import Derived.Test.YtpojpokldncglaaWb
import Derived.Test.YtpojpokldncglaaWc
import Derived.Test.YtpojpokldncglaaWd
import Derived.Test.YtpojpokldncglaaWe
import Derived.Test.YtpojpokldncglaaWf
import Derived.Test.YtpojpokldncglaaWg
import Derived.Test.YtpojpokldncglaaWh
import Derived.Test.YtpojpokldncglaaWi
import Derived.Test.YtpojpokldncglaaWj
import Derived.Test.YtpojpokldncglaaWk
import Derived.Test.YtpojpokldncglaaWl
import Derived.Test.YtpojpokldncglaaWm
import Derived.Test.YtpojpokldncglaaWn
import Derived.Test.YtpojpokldncglaaWo
import Derived.Test.YtpojpokldncglaaWp
import Derived.Test.YtpojpokldncglaaXa
import Derived.Test.YtpojpokldncglaaXb
import Derived.DeepKeys4
import Derived.Test.YtpojpokldncglaaXc
import Derived.Test.YtpojpokldncglaaXd
import Derived.Test.YtpojpokldncglaaXe
import Derived.Test.YtpojpokldncglaaXf
import Derived.Test.YtpojpokldncglaaXg
import Derived.Test.YtpojpokldncglaaXh
import Derived.Test.YtpojpokldncglaaXi
import Derived.Test.YtpojpokldncglaaXj
import Derived.Test.YtpojpokldncglaaXk
import Derived.Test.YtpojpokldncglaaXl
import Derived.Test.YtpojpokldncglaaXm
import Derived.Test.YtpojpokldncglaaXn
import Derived.Test.YtpojpokldncglaaXo
import Derived.Test.YtpojpokldncglaaXp
import Derived.Test.YtpojpokldncglaaXq
import Derived.Test.YtpojpokldncglaaXr
set_option linter.unusedVariables false
set_option linter.unusedSimpArgs false
namespace Go.Proofs.Ytpojpokldncglaa.G
open Go Go.RowKit
namespace Xs
theorem u107 : Try.prog.underlying 107 = some (TypeDesc.map 94 2) := by kernel_rfl
theorem u2 : Try.prog.underlying 2 = some (TypeDesc.int .i64) := by kernel_rfl
theorem u22 : Try.prog.underlying 22 = some (TypeDesc.slice 2) := by kernel_rfl
theorem u27 : Try.prog.underlying 27 = some (TypeDesc.slice 88) := by kernel_rfl
theorem u29 : Try.prog.underlying 29 = some (TypeDesc.struct #[{ name := "Terms", type := 27, offset := 0, embedded := false, tag := "", pkgPath := "", byteOffset := 0 }]) := by kernel_rfl
theorem u3 : Try.prog.underlying 3 = some (TypeDesc.int .i64) := by kernel_rfl
theorem u41 : Try.prog.underlying 41 = some (TypeDesc.struct #[{ name := "Degrees", type := 22, offset := 0, embedded := false, tag := "", pkgPath := "", byteOffset := 0 }, { name := "Images", type := 39, offset := 1, embedded := false, tag := "", pkgPath := "", byteOffset := 24 }]) := by kernel_rfl
theorem u5 : Try.prog.underlying 5 = some (TypeDesc.int .u8) := by kernel_rfl
theorem u86 : Try.prog.underlying 86 = some (TypeDesc.array 8 5) := by kernel_rfl
theorem u88 : Try.prog.underlying 88 = some (TypeDesc.struct #[{ name := "Monomial", type := 86, offset := 0, embedded := false, tag := "", pkgPath := "", byteOffset := 0 }, { name := "Factor", type := 2, offset := 8, embedded := false, tag := "", pkgPath := "", byteOffset := 8 }]) := by kernel_rfl
theorem u94 : Try.prog.underlying 94 = some (TypeDesc.array 8 3) := by kernel_rfl
theorem sz22 : Size Try.prog 22 1 := by unfold Size; kernel_rfl
theorem sz27 : Size Try.prog 27 1 := by unfold Size; kernel_rfl
theorem sz3 : Size Try.prog 3 1 := by unfold Size; kernel_rfl
theorem sz5 : Size Try.prog 5 1 := by unfold Size; kernel_rfl
theorem sz86 : Size Try.prog 86 8 := by unfold Size; kernel_rfl
theorem sz88 : Size Try.prog 88 9 := by unfold Size; kernel_rfl
theorem ze88 : Zero Try.prog 88 [.int .u8 0, .int .u8 0, .int .u8 0, .int .u8 0, .int .u8 0, .int .u8 0, .int .u8 0, .int .u8 0, .int .i64 0] := by unfold Zero; kernel_rfl
theorem pl22 : Plain Try.prog 22 := ⟨_, u22, rfl⟩
theorem pl27 : Plain Try.prog 27 := ⟨_, u27, rfl⟩
theorem pl3 : Plain Try.prog 3 := ⟨_, u3, rfl⟩
theorem pl5 : Plain Try.prog 5 := ⟨_, u5, rfl⟩
theorem ag29 : Agg Try.prog 29 1 := ⟨_, u29, rfl, by kernel_rfl⟩
theorem ag41 : Agg Try.prog 41 2 := ⟨_, u41, rfl, by kernel_rfl⟩
theorem ag86 : Agg Try.prog 86 8 := ⟨_, u86, rfl, by kernel_rfl⟩
theorem ag88 : Agg Try.prog 88 9 := ⟨_, u88, rfl, by kernel_rfl⟩
theorem ag94 : Agg Try.prog 94 8 := ⟨_, u94, rfl, by kernel_rfl⟩
theorem fn113 : Fn Try.prog 113 := ⟨_, Try.func113, by kernel_rfl, rfl⟩
theorem fn129 : Fn Try.prog 129 := ⟨_, Try.func129, by kernel_rfl, rfl⟩
theorem fn134 : Fn Try.prog 134 := ⟨_, Try.func134, by kernel_rfl, rfl⟩
theorem fn153 : Fn Try.prog 153 := ⟨_, Try.func153, by kernel_rfl, rfl⟩
theorem fn89 : Fn Try.prog 89 := ⟨_, Try.func89, by kernel_rfl, rfl⟩
theorem fn95 : Fn Try.prog 95 := ⟨_, Try.func95, by kernel_rfl, rfl⟩
theorem fn96 : Fn Try.prog 96 := ⟨_, Try.func96, by kernel_rfl, rfl⟩
end Xs
open Xs

section
variable {P : Program} {n : Nat} {B : World} {H0 H : HP} {us : List (Nat × Value)} {L : List SA} {t : TypeId} {x : Operand}
theorem PR.loadHb {ty : TypeId} {b : Nat} {u v : Value} (hx : opv us x = some (.pointer (some ⟨b, 0, none⟩))) (h0 : CellAt H b 0 u) (h1 : CellAt H b 1 v) (hp : Agg P ty 2) : PR P n B H0 us H L (.load ty x) t (.agg [u, v].toArray) :=
  PR.loadHagg (q := some ⟨b, 0, none⟩) (k := 0) (cs := [u, v]) hx (fun j w hj => by
    match j, hj with
    | 0, hj => simp at hj; subst hj; exact h0
    | 1, hj => simp at hj; subst hj; exact h1
    | j + 2, hj => simp at hj) rfl hp
end
def bothC (ds : List Int) (fs : List (List Term)) (ts : List Term) : Int := if isAlg ds fs && isForm ds ts then 0 else 1
def closedB (ds : List Int) (fs : List (List Term)) (ts : List Term) : Bool := (isAlg ds fs && isForm ds ts) && decide ((dS ds fs (toS ts)).length = 0)
theorem isAlg_deg {ds : List Int} {fs : List (List Term)} (h : isAlg ds fs = true) : isDeg ds = true := by
  unfold isAlg at h
  simp only [Bool.and_eq_true] at h
  exact h.1.1.1
/-- the word length of the first k -/
def wrd (m : List Int) : Nat → Int
  | 0 => 0
  | k + 1 => wrd m k + m.getD k 0
theorem wrd_bd {m : List Int} {M : Int} (hm : ∀ j, 0 ≤ m.getD j 0 ∧ m.getD j 0 ≤ M) : ∀ k : Nat, 0 ≤ wrd m k ∧ wrd m k ≤ k * M
  | 0 => by simp [wrd]
  | k + 1 => by
    have h1 := wrd_bd hm k
    have h2 := hm k
    have e : ((k + 1 : Nat) : Int) * M = k * M + M := by rw [Int.natCast_add, Int.add_mul]; simp
    rw [e]
    simp only [wrd]
    omega
def wrdAt (ts : List Term) (k : Nat) : Int := wrd (tm ts k).mono 8
def least (ts : List Term) : Nat → Int
  | 0 => 0
  | k + 1 => if k = 0 ∨ wrdAt ts k < least ts k then wrdAt ts k else least ts k
theorem least_yes {ts : List Term} {k : Nat} (h : k = 0 ∨ wrdAt ts k < least ts k) : wrdAt ts k = least ts (k + 1) := by simp only [least]; rw [if_pos h]
theorem least_no {ts : List Term} {k : Nat} (h : ¬ (k = 0 ∨ wrdAt ts k < least ts k)) : least ts k = least ts (k + 1) := by simp only [least]; rw [if_neg h]

set_option maxRecDepth 10000 in
theorem l02Both_c {B : World} {H0 H : HP} {L : List SA} {w : World} {qad qaf : Option Addr} {cad caf : Nat} {ad : List Int} {af : List (List Term)} {qts : Option Addr} {cts : Nat} {ts : List Term}  (had : Ints H qad ad) (haf : Forms H qaf af) (hts : Terms H qts ts) (hn8 : ad.length ≤ 1048576) (hn9 : af.length ≤ 1048576) (hl9 : ∀ i, i < af.length → (fm af i).length ≤ 1048576) (hlt : ts.length ≤ 9223372036854775807) (hH : Hp B H0 H L w) :
    Calls Try.prog 97 [.agg [.slice qad ad.length cad, .slice qaf af.length caf].toArray, .agg [.slice qts ts.length cts].toArray].toArray w fun e w' => e = .returned (.int .i64 (bothC ad af ts)) ∧ Hp B H0 H L w' := by
  refine CJ.enter Try.func97 rfl 15 rfl rfl [(0, .agg [.slice qad ad.length cad, .slice qaf af.length caf].toArray), (1, .agg [.slice qts ts.length cts].toArray)] rfl hH ?_
  clear hH
  refine CJ.seq fun _ hK1 _ => ?_
  refine CJ.region ?_
  refine J.box rfl rfl rfl fun g2 => ?_
  refine J.box rfl rfl rfl fun g3 => ?_
  refine J.p (PR.assign rfl) rfl ?_
  refine J.nil ?_
  refine EJ.thenN (hK1 ?_)
  refine CJ.seq fun _ hK2 _ => ?_
  refine CJ.seq fun _ hK3 _ => ?_
  refine CJ.region ?_
  refine J.p (PR.loadAll rfl (.s .z) (by simpa [*] using ag41)) rfl ?_
  refine J.call fn89 rfl rfl fun w hH => (l02Is_c had haf hn8 hn9 hl9 hH).mono ?_
  rintro _ w ⟨rfl, hH⟩
  refine ⟨_, rfl, fun a hF => J.of hF hH ?_⟩
  refine J.p (PR.not rfl) rfl ?_
  refine J.p (PR.move rfl) rfl ?_
  refine J.splitB (jd := 8) rfl (fun h8 => ?_) (fun h8 => ?_)
  ·
    try have h8p := of_decide_eq_true h8
    refine J.gn rfl rfl rfl h8 ?_
    refine J.gn rfl rfl rfl h8 ?_
    refine J.gn rfl rfl rfl h8 ?_
    refine J.gn rfl rfl rfl h8 ?_
    refine J.gn rfl rfl rfl h8 ?_
    refine J.p (PR.pickT rfl h8 rfl) rfl ?_
    refine J.nil ?_
    refine EJ.thenN (hK3 ?_)
    refine CJ.condT rfl ?_
    refine CJ.seq fun _ hK4 _ => ?_
    refine CJ.region ?_
    refine J.p (PR.assign rfl) rfl ?_
    refine J.nil ?_
    refine EJ.thenN (hK4 ?_)
    refine CJ.ret ?_
    refine EJ.thenR ?_
    refine EJ.ret1 rfl (Res.tmp rfl) fun w hH => ?_
    replace hH := hH.tail
    replace hH := hH.tail
    exact ⟨ri (by unfold bothC; rw [show isAlg ad af = false by simpa using h8]; rfl), hH⟩
  ·
    try have h8p := of_decide_eq_false h8
    refine J.gy (PR.fldA u41 rfl sz22 rfl) rfl rfl rfl h8 ?_
    refine J.gy (PR.load rfl (.s .z) rfl pl22) rfl rfl rfl h8 ?_
    refine J.gy (PR.loadAll rfl At.z (by simpa [*] using ag29)) rfl rfl rfl h8 ?_
    refine J.gcall fn129 rfl rfl h8 rfl rfl fun w hH => (l01Is_c had hts hn8 (fun j _ => (isDeg_bd (isAlg_deg (by simpa using h8)) j).1) hlt hH).mono ?_
    rintro _ w ⟨rfl, hH⟩
    refine ⟨_, rfl, fun a hF => J.of hF hH ?_⟩
    refine J.gy (PR.not rfl) rfl rfl rfl h8 ?_
    refine J.p (PR.pickF rfl h8 rfl) rfl ?_
    refine J.nil ?_
    refine EJ.thenN (hK3 ?_)
    refine CJ.cond rfl (fun h14 => ?_) (fun h14 => ?_)
    ·
      refine CJ.seq fun _ hK5 _ => ?_
      refine CJ.region ?_
      refine J.p (PR.assign rfl) rfl ?_
      refine J.nil ?_
      refine EJ.thenN (hK5 ?_)
      refine CJ.ret ?_
      refine EJ.thenR ?_
      refine EJ.ret1 rfl (Res.tmp rfl) fun w hH => ?_
      replace hH := hH.tail
      replace hH := hH.tail
      exact ⟨ri (by unfold bothC; rw [show isForm ad ts = false by simpa using h14]; simp), hH⟩
    ·
      refine CJ.skip ?_
      refine EJ.thenN (hK2 ?_)
      refine CJ.seq fun _ hK6 _ => ?_
      refine CJ.region ?_
      refine J.p (PR.assign rfl) rfl ?_
      refine J.nil ?_
      refine EJ.thenN (hK6 ?_)
      refine CJ.ret ?_
      refine EJ.ret1 rfl (Res.tmp rfl) fun w hH => ?_
      replace hH := hH.tail
      replace hH := hH.tail
      exact ⟨ri (by unfold bothC; rw [show isAlg ad af = true by simpa using h8, show isForm ad ts = true by simpa using h14]; rfl), hH⟩
set_option maxRecDepth 10000 in
theorem l02Word_c {B : World} {H0 H : HP} {L : List SA} {w : World} {m : List Int}  (hm : Mono m) (hH : Hp B H0 H L w) :
    Calls Try.prog 153 [.agg (bytesC m).toArray].toArray w fun e w' => e = .returned (.int .i64 (wrd m 8)) ∧ Hp B H0 H L w' := by
  refine CJ.enter Try.func153 rfl 16 rfl rfl [(0, .agg (bytesC m).toArray)] rfl hH ?_
  have hml := hm.len
  clear hH
  refine CJ.seq fun _ hK1 _ => ?_
  refine CJ.region ?_
  refine J.box rfl rfl rfl fun g1 => ?_
  refine J.p (PR.assign rfl) rfl ?_
  refine J.nil ?_
  refine EJ.thenN (hK1 ?_)
  refine CJ.seq fun _ hK2 _ => ?_
  refine CJ.region ?_
  refine J.p (PR.assign rfl) rfl ?_
  refine J.nil ?_
  refine EJ.thenN (hK2 ?_)
  refine CJ.seq fun _ hK3 _ => ?_
  refine CJ.seq fun _ hK4 _ => ?_
  refine CJ.region ?_
  refine J.p (PR.assign rfl) rfl ?_
  refine J.nil ?_
  refine EJ.thenN (hK4 ?_)
  refine CJ.block ?_
  refine CJ.loopU (σ := Nat) (fun (k : Nat) => [(4, .int .i64 (k : Int)), (3, .int .i64 (wrd m k))]) (fun (k : Nat) => H) (fun (k : Nat) => obj g1 (.cells (bytesC m).toArray 86 (0, 0)) :: L) (fun (k : Nat) => k ≤ 8) (fun (k : Nat) => 8 - k) 0 (by omega) ⟨rfl, ⟨rfl, trivial⟩⟩ rfl rfl ?_
  rintro k hI _ hAg0
  have hk := hI
  have b1 := wrd_bd hm.bd k
  have hb := hm.bd k
  refine CJ.seq fun _ hK5 _ => ?_
  refine CJ.seq fun _ hK6 _ => ?_
  refine CJ.region ?_
  refine J.p (PR.move rfl) rfl ?_
  refine J.p (PR.lss rfl rfl) rfl ?_
  refine J.nil ?_
  refine EJ.thenN (hK6 ?_)
  refine CJ.condD rfl (fun hc6 => ?_) (fun hc6 => ?_)
  ·
    refine CJ.skip ?_
    refine EJ.thenN (hK5 ?_)
    refine CJ.seq fun _ hK7 _ => ?_
    refine CJ.block ?_
    refine CJ.region ?_
    refine J.p (PR.move rfl) rfl ?_
    refine J.p (PR.move rfl) rfl ?_
    refine J.p (PR.idxA1 u86 sz5 rfl rfl rfl (by omega)) rfl ?_
    refine J.p (PR.load rfl At.z (by first | exact bytesC_get (by simp [*]; omega) | exact intsC_get (by simp [*]; omega)) pl5) rfl ?_
    refine J.p (PR.conv u5 u2 rfl (by first | exact nw _ (by omega) | rfl)) rfl ?_
    refine J.p (PR.add rfl rfl (by first | exact nw _ (by omega) | rfl)) rfl ?_
    refine J.p (PR.assign rfl) rfl ?_
    refine J.nil ?_
    refine EJ.inN ?_
    refine EJ.thenN (hK7 ?_)
    refine CJ.region ?_
    refine J.p (PR.move rfl) rfl ?_
    refine J.p (PR.add rfl rfl (by first | exact nw _ (by omega) | rfl)) rfl ?_
    refine J.p (PR.assign rfl) rfl ?_
    refine J.nil ?_
    refine EJ.thenN ?_
    exact hAg0 (k + 1) (by omega) (by omega) 14 rfl rfl ⟨rfl, ⟨rfl, trivial⟩⟩ rfl rfl
  ·
    refine CJ.exit ?_
    refine EJ.thenE ?_
    refine EJ.thenE ?_
    refine EJ.inE ?_
    refine EJ.thenN (hK3 ?_)
    refine CJ.seq fun _ hK8 _ => ?_
    refine CJ.region ?_
    refine J.p (PR.move rfl) rfl ?_
    refine J.p (PR.assign rfl) rfl ?_
    refine J.nil ?_
    refine EJ.thenN (hK8 ?_)
    refine CJ.ret ?_
    refine EJ.ret1 rfl (Res.tmp rfl) fun w hH => ?_
    replace hH := hH.tail
    obtain rfl : k = 8 := by omega
    exact ⟨rfl, hH⟩
set_option maxRecDepth 10000 in
theorem plength_c {B : World} {H0 H : HP} {L : List SA} {w : World} {p : List Int}  (hp : p.length = 8) (hs : Small p) (hH : Hp B H0 H L w) :
    Calls Try.prog 113 [.agg (intsC p).toArray].toArray w fun e w' => e = .returned (.int .i64 (wrd p 8)) ∧ Hp B H0 H L w' := by
  refine CJ.enter Try.func113 rfl 15 rfl rfl [(0, .agg (intsC p).toArray)] rfl hH ?_
  clear hH
  refine CJ.seq fun _ hK1 _ => ?_
  refine CJ.region ?_
  refine J.box rfl rfl rfl fun g1 => ?_
  refine J.p (PR.assign rfl) rfl ?_
  refine J.nil ?_
  refine EJ.thenN (hK1 ?_)
  refine CJ.seq fun _ hK2 _ => ?_
  refine CJ.region ?_
  refine J.p (PR.assign rfl) rfl ?_
  refine J.nil ?_
  refine EJ.thenN (hK2 ?_)
  refine CJ.seq fun _ hK3 _ => ?_
  refine CJ.seq fun _ hK4 _ => ?_
  refine CJ.region ?_
  refine J.p (PR.loadAll rfl At.z (by simpa [*] using ag94)) rfl ?_
  refine J.p (PR.move rfl) rfl ?_
  refine J.nil ?_
  refine EJ.thenN (hK4 ?_)
  refine CJ.block ?_
  refine CJ.loopU (σ := Nat) (fun (k : Nat) => [(7, .int .i64 (k : Int)), (3, .int .i64 (wrd p k))]) (fun (k : Nat) => H) (fun (k : Nat) => obj g1 (.cells (intsC p).toArray 94 (0, 0)) :: L) (fun (k : Nat) => k ≤ 8) (fun (k : Nat) => 8 - k) 0 (by omega) ⟨rfl, ⟨rfl, trivial⟩⟩ rfl rfl ?_
  rintro k hI _ hAg0
  have hk := hI
  have b1 := wrd_bd hs k
  have hb := hs k
  refine CJ.seq fun _ hK5 _ => ?_
  refine CJ.region ?_
  refine J.p (PR.lss rfl rfl) rfl ?_
  refine J.nil ?_
  refine EJ.thenN (hK5 ?_)
  refine CJ.seq fun _ hK6 _ => ?_
  refine CJ.condD rfl (fun hc8 => ?_) (fun hc8 => ?_)
  ·
    refine CJ.skip ?_
    refine EJ.thenN (hK6 ?_)
    refine CJ.seq fun _ hK7 _ => ?_
    refine CJ.block ?_
    refine CJ.seq fun _ hK8 _ => ?_
    refine CJ.region ?_
    refine J.p (PR.index u94 sz3 pl3 rfl rfl rfl (by omega) (by first | exact bytesC_get (by simp [*]; omega) | exact intsC_get (by simp [*]; omega))) rfl ?_
    refine J.p (PR.assign rfl) rfl ?_
    refine J.nil ?_
    refine EJ.thenN (hK8 ?_)
    refine CJ.region ?_
    refine J.p (PR.move rfl) rfl ?_
    refine J.p (PR.move rfl) rfl ?_
    refine J.p (PR.add rfl rfl (by first | exact nw _ (by omega) | rfl)) rfl ?_
    refine J.p (PR.assign rfl) rfl ?_
    refine J.nil ?_
    refine EJ.inN ?_
    refine EJ.thenN (hK7 ?_)
    refine CJ.region ?_
    refine J.p (PR.add rfl rfl (by first | exact nw _ (by omega) | rfl)) rfl ?_
    refine J.p (PR.move rfl) rfl ?_
    refine J.nil ?_
    refine EJ.thenN ?_
    exact hAg0 (k + 1) (by omega) (by omega) 11 rfl rfl ⟨rfl, ⟨rfl, trivial⟩⟩ rfl rfl
  ·
    refine CJ.exit ?_
    refine EJ.thenE ?_
    refine EJ.thenE ?_
    refine EJ.inE ?_
    refine EJ.thenN (hK3 ?_)
    refine CJ.seq fun _ hK9 _ => ?_
    refine CJ.region ?_
    refine J.p (PR.move rfl) rfl ?_
    refine J.p (PR.assign rfl) rfl ?_
    refine J.nil ?_
    refine EJ.thenN (hK9 ?_)
    refine CJ.ret ?_
    refine EJ.ret1 rfl (Res.tmp rfl) fun w hH => ?_
    replace hH := hH.tail
    obtain rfl : k = 8 := by omega
    exact ⟨rfl, hH⟩
set_option maxRecDepth 10000 in
theorem l02Least_c {B : World} {H0 H : HP} {L : List SA} {w : World} {qts : Option Addr} {cts : Nat} {ts : List Term}  (hts : Terms H qts ts) (hl : ts.length ≤ 9223372036854775807) (hH : Hp B H0 H L w) :
    Calls Try.prog 101 [.agg [.slice qts ts.length cts].toArray].toArray w fun e w' => e = .returned (.int .i64 (least ts ts.length)) ∧ Hp B H0 H L w' := by
  refine CJ.enter Try.func101 rfl 29 rfl rfl [(0, .agg [.slice qts ts.length cts].toArray)] rfl hH ?_
  clear hH
  refine CJ.seq fun _ hK1 _ => ?_
  refine CJ.region ?_
  refine J.box rfl rfl rfl fun g1 => ?_
  refine J.p (PR.assign rfl) rfl ?_
  refine J.nil ?_
  refine EJ.thenN (hK1 ?_)
  refine CJ.seq fun _ hK2 _ => ?_
  refine CJ.region ?_
  refine J.p (PR.assign rfl) rfl ?_
  refine J.nil ?_
  refine EJ.thenN (hK2 ?_)
  refine CJ.seq fun _ hK3 _ => ?_
  refine CJ.seq fun _ hK4 _ => ?_
  refine CJ.region ?_
  refine J.p (PR.assign rfl) rfl ?_
  refine J.nil ?_
  refine EJ.thenN (hK4 ?_)
  refine CJ.block ?_
  refine CJ.loopU (σ := Nat) (fun (k : Nat) => [(4, .int .i64 (k : Int)), (3, .int .i64 (least ts k))]) (fun (k : Nat) => H) (fun (k : Nat) => obj g1 (.cells [.slice qts ts.length cts].toArray 29 (0, 0)) :: L) (fun (k : Nat) => k ≤ ts.length) (fun (k : Nat) => ts.length - k) 0 (by omega) ⟨rfl, ⟨rfl, trivial⟩⟩ rfl rfl ?_
  rintro k hI _ hAg0
  have hk := hI
  refine CJ.seq fun _ hK5 _ => ?_
  refine CJ.seq fun _ hK6 _ => ?_
  refine CJ.region ?_
  refine J.p (PR.move rfl) rfl ?_
  refine J.p (PR.fldA u29 rfl sz27 rfl) rfl ?_
  refine J.p (PR.load rfl At.z rfl pl27) rfl ?_
  refine J.p (PR.lenSlice u27 rfl rfl) rfl ?_
  refine J.p (PR.lss rfl rfl) rfl ?_
  refine J.nil ?_
  refine EJ.thenN (hK6 ?_)
  refine CJ.condD rfl (fun hc10 => ?_) (fun hc10 => ?_)
  ·
    refine CJ.skip ?_
    refine EJ.thenN (hK5 ?_)
    refine CJ.seq fun _ hK7 _ => ?_
    refine CJ.block ?_
    refine CJ.seq fun _ hK8 _ => ?_
    refine CJ.region ?_
    refine J.p (PR.fldA u29 rfl sz27 rfl) rfl ?_
    refine J.p (PR.load rfl At.z rfl pl27) rfl ?_
    refine J.p (PR.move rfl) rfl ?_
    refine J.p (PR.idx u27 sz88 rfl rfl rfl (by omega) hts.sm) rfl ?_
    refine J.p (PR.fldP u88 rfl sz86 rfl (hts.sm (i := k) (by omega))) rfl ?_
    refine J.p (PR.loadHagg rfl (hts.mono (by omega)) (hts.sm (i := k) (by omega)) (by rw [bytesC_length, (hts.wf _ (by omega)).mono.len]; exact ag86)) rfl ?_
    refine J.call fn153 rfl rfl fun w hH => (l02Word_c (hts.wf k (by omega)).mono hH).mono ?_
    rintro _ w ⟨rfl, hH⟩
    refine ⟨_, rfl, fun a hF => J.of hF hH ?_⟩
    refine J.p (PR.assign rfl) rfl ?_
    refine J.nil ?_
    refine EJ.thenN (hK8 ?_)
    refine CJ.seq fun _ hK9 _ => ?_
    refine CJ.region ?_
    refine J.p (PR.move rfl) rfl ?_
    refine J.p (PR.eql rfl rfl) rfl ?_
    refine J.p (PR.move rfl) rfl ?_
    refine J.splitB (jd := 22) rfl (fun h22 => ?_) (fun h22 => ?_)
    ·
      try have h22p := of_decide_eq_true h22
      refine J.gn rfl rfl rfl h22 ?_
      refine J.gn rfl rfl rfl h22 ?_
      refine J.gn rfl rfl rfl h22 ?_
      refine J.p (PR.pickT rfl h22 rfl) rfl ?_
      refine J.nil ?_
      refine EJ.thenN (hK9 ?_)
      refine CJ.condT rfl ?_
      refine CJ.region ?_
      refine J.p (PR.move rfl) rfl ?_
      refine J.p (PR.assign rfl) rfl ?_
      refine J.nil ?_
      refine EJ.inN ?_
      refine EJ.thenN (hK7 ?_)
      refine CJ.region ?_
      refine J.p (PR.move rfl) rfl ?_
      refine J.p (PR.add rfl rfl (by first | exact nw _ (by omega) | rfl)) rfl ?_
      refine J.p (PR.assign rfl) rfl ?_
      refine J.nil ?_
      refine EJ.thenN ?_
      exact hAg0 (k + 1) (by omega) (by omega) 27 rfl rfl ⟨rfl, ⟨(vi (least_yes (.inl (by omega)))), trivial⟩⟩ rfl rfl
    ·
      try have h22p := of_decide_eq_false h22
      refine J.gy (PR.move rfl) rfl rfl rfl h22 ?_
      refine J.gy (PR.move rfl) rfl rfl rfl h22 ?_
      refine J.gy (PR.lss rfl rfl) rfl rfl rfl h22 ?_
      refine J.p (PR.pickF rfl h22 rfl) rfl ?_
      refine J.nil ?_
      refine EJ.thenN (hK9 ?_)
      refine CJ.condD rfl (fun h26 => ?_) (fun h26 => ?_)
      ·
        refine CJ.region ?_
        refine J.p (PR.move rfl) rfl ?_
        refine J.p (PR.assign rfl) rfl ?_
        refine J.nil ?_
        refine EJ.inN ?_
        refine EJ.thenN (hK7 ?_)
        refine CJ.region ?_
        refine J.p (PR.move rfl) rfl ?_
        refine J.p (PR.add rfl rfl (by first | exact nw _ (by omega) | rfl)) rfl ?_
        refine J.p (PR.assign rfl) rfl ?_
        refine J.nil ?_
        refine EJ.thenN ?_
        exact hAg0 (k + 1) (by omega) (by omega) 27 rfl rfl ⟨rfl, ⟨(vi (least_yes (.inr h26))), trivial⟩⟩ rfl rfl
      ·
        refine CJ.skip ?_
        refine EJ.inN ?_
        refine EJ.thenN (hK7 ?_)
        refine CJ.region ?_
        refine J.p (PR.move rfl) rfl ?_
        refine J.p (PR.add rfl rfl (by first | exact nw _ (by omega) | rfl)) rfl ?_
        refine J.p (PR.assign rfl) rfl ?_
        refine J.nil ?_
        refine EJ.thenN ?_
        exact hAg0 (k + 1) (by omega) (by omega) 25 rfl rfl ⟨rfl, ⟨(vi (least_no (fun h => h.elim (by omega) h26))), trivial⟩⟩ rfl rfl
  ·
    refine CJ.exit ?_
    refine EJ.thenE ?_
    refine EJ.thenE ?_
    refine EJ.inE ?_
    refine EJ.thenN (hK3 ?_)
    refine CJ.seq fun _ hK10 _ => ?_
    refine CJ.region ?_
    refine J.p (PR.move rfl) rfl ?_
    refine J.p (PR.assign rfl) rfl ?_
    refine J.nil ?_
    refine EJ.thenN (hK10 ?_)
    refine CJ.ret ?_
    refine EJ.ret1 rfl (Res.tmp rfl) fun w hH => ?_
    replace hH := hH.tail
    obtain rfl : k = ts.length := by omega
    exact ⟨rfl, hH⟩
set_option maxRecDepth 10000 in
theorem wordLength_c {B : World} {H0 H : HP} {L : List SA} {w : World} {qts : Option Addr} {cts : Nat} {ts : List Term}  (hts : Terms H qts ts) (hl : ts.length ≤ 9223372036854775807) (hH : Hp B H0 H L w) :
    Calls Try.prog 102 [.agg [.slice qts ts.length cts].toArray].toArray w fun e w' => e = .returned (.int .i64 (least ts ts.length)) ∧ Hp B H0 H L w' := by
  refine CJ.enter Try.func102 rfl 29 rfl rfl [(0, .agg [.slice qts ts.length cts].toArray)] rfl hH ?_
  clear hH
  refine CJ.seq fun _ hK1 _ => ?_
  refine CJ.region ?_
  refine J.box rfl rfl rfl fun g1 => ?_
  refine J.p (PR.assign rfl) rfl ?_
  refine J.nil ?_
  refine EJ.thenN (hK1 ?_)
  refine CJ.seq fun _ hK2 _ => ?_
  refine CJ.region ?_
  refine J.p (PR.assign rfl) rfl ?_
  refine J.nil ?_
  refine EJ.thenN (hK2 ?_)
  refine CJ.seq fun _ hK3 _ => ?_
  refine CJ.seq fun _ hK4 _ => ?_
  refine CJ.region ?_
  refine J.p (PR.fldA u29 rfl sz27 rfl) rfl ?_
  refine J.p (PR.load rfl At.z rfl pl27) rfl ?_
  refine J.p (PR.lenSlice u27 rfl rfl) rfl ?_
  refine J.p (PR.move rfl) rfl ?_
  refine J.nil ?_
  refine EJ.thenN (hK4 ?_)
  refine CJ.block ?_
  refine CJ.loopU (σ := Nat) (fun (k : Nat) => [(10, .int .i64 (k : Int)), (3, .int .i64 (least ts k))]) (fun (k : Nat) => H) (fun (k : Nat) => obj g1 (.cells [.slice qts ts.length cts].toArray 29 (0, 0)) :: L) (fun (k : Nat) => k ≤ ts.length) (fun (k : Nat) => ts.length - k) 0 (by omega) ⟨rfl, ⟨rfl, trivial⟩⟩ rfl rfl ?_
  rintro k hI _ hAg0
  have hk := hI
  refine CJ.seq fun _ hK5 _ => ?_
  refine CJ.region ?_
  refine J.p (PR.lss rfl rfl) rfl ?_
  refine J.nil ?_
  refine EJ.thenN (hK5 ?_)
  refine CJ.seq fun _ hK6 _ => ?_
  refine CJ.condD rfl (fun hc11 => ?_) (fun hc11 => ?_)
  ·
    refine CJ.skip ?_
    refine EJ.thenN (hK6 ?_)
    refine CJ.seq fun _ hK7 _ => ?_
    refine CJ.block ?_
    refine CJ.seq fun _ hK8 _ => ?_
    refine CJ.region ?_
    refine J.p (PR.move rfl) rfl ?_
    refine J.p (PR.idx u27 sz88 rfl rfl rfl (by omega) hts.sm) rfl ?_
    refine J.p (PR.loadHagg rfl (hts.cell _ (by omega)) (hts.sm (i := k) (by omega)) (by rw [Term.c_length (hts.wf _ (by omega))]; exact ag88)) rfl ?_
    refine J.alloc (cs := (default : Term).c) ze88 rfl fun g5 => ?_
    refine J.p (PR.assign rfl) rfl ?_
    refine J.stTerm rfl rfl sz88 zero_wf (hts.wf k (by omega)) At.z ?_
    refine J.nil ?_
    refine EJ.thenN (hK8 ?_)
    refine CJ.seq fun _ hK9 _ => ?_
    refine CJ.region ?_
    refine J.p (PR.fldA u88 rfl sz86 rfl) rfl ?_
    refine J.p (PR.ldMono rfl At.z (hts.wf k (by omega)) ag86) rfl ?_
    refine J.call fn134 rfl rfl fun w hH => (powerOf_c (hts.wf k (by omega)).mono hH).mono ?_
    rintro _ w ⟨rfl, hH⟩
    refine ⟨_, rfl, fun a hF => J.of hF hH ?_⟩
    refine J.call fn113 rfl rfl fun w hH => (plength_c (hts.wf k (by omega)).mono.len (hts.wf k (by omega)).mono.small hH).mono ?_
    rintro _ w ⟨rfl, hH⟩
    refine ⟨_, rfl, fun a hF => J.of hF hH ?_⟩
    refine J.p (PR.assign rfl) rfl ?_
    refine J.nil ?_
    refine EJ.thenN (hK9 ?_)
    refine CJ.seq fun _ hK10 _ => ?_
    refine CJ.region ?_
    refine J.p (PR.move rfl) rfl ?_
    refine J.p (PR.eql rfl rfl) rfl ?_
    refine J.p (PR.move rfl) rfl ?_
    refine J.splitB (jd := 21) rfl (fun h21 => ?_) (fun h21 => ?_)
    ·
      try have h21p := of_decide_eq_true h21
      refine J.gn rfl rfl rfl h21 ?_
      refine J.gn rfl rfl rfl h21 ?_
      refine J.gn rfl rfl rfl h21 ?_
      refine J.p (PR.pickT rfl h21 rfl) rfl ?_
      refine J.nil ?_
      refine EJ.thenN (hK10 ?_)
      refine CJ.condT rfl ?_
      refine CJ.region ?_
      refine J.p (PR.move rfl) rfl ?_
      refine J.p (PR.assign rfl) rfl ?_
      refine J.nil ?_
      refine EJ.inN ?_
      refine EJ.thenN (hK7 ?_)
      refine CJ.region ?_
      refine J.p (PR.add rfl rfl (by first | exact nw _ (by omega) | rfl)) rfl ?_
      refine J.p (PR.move rfl) rfl ?_
      refine J.nil ?_
      refine EJ.thenN ?_
      refine EJ.drop .z ?_
      exact hAg0 (k + 1) (by omega) (by omega) 24 rfl rfl ⟨rfl, ⟨(vi (least_yes (.inl (by omega)))), trivial⟩⟩ rfl rfl
    ·
      try have h21p := of_decide_eq_false h21
      refine J.gy (PR.move rfl) rfl rfl rfl h21 ?_
      refine J.gy (PR.move rfl) rfl rfl rfl h21 ?_
      refine J.gy (PR.lss rfl rfl) rfl rfl rfl h21 ?_
      refine J.p (PR.pickF rfl h21 rfl) rfl ?_
      refine J.nil ?_
      refine EJ.thenN (hK10 ?_)
      refine CJ.condD rfl (fun h25 => ?_) (fun h25 => ?_)
      ·
        refine CJ.region ?_
        refine J.p (PR.move rfl) rfl ?_
        refine J.p (PR.assign rfl) rfl ?_
        refine J.nil ?_
        refine EJ.inN ?_
        refine EJ.thenN (hK7 ?_)
        refine CJ.region ?_
        refine J.p (PR.add rfl rfl (by first | exact nw _ (by omega) | rfl)) rfl ?_
        refine J.p (PR.move rfl) rfl ?_
        refine J.nil ?_
        refine EJ.thenN ?_
        refine EJ.drop .z ?_
        exact hAg0 (k + 1) (by omega) (by omega) 24 rfl rfl ⟨rfl, ⟨(vi (least_yes (.inr h25))), trivial⟩⟩ rfl rfl
      ·
        refine CJ.skip ?_
        refine EJ.inN ?_
        refine EJ.thenN (hK7 ?_)
        refine CJ.region ?_
        refine J.p (PR.add rfl rfl (by first | exact nw _ (by omega) | rfl)) rfl ?_
        refine J.p (PR.move rfl) rfl ?_
        refine J.nil ?_
        refine EJ.thenN ?_
        refine EJ.drop .z ?_
        exact hAg0 (k + 1) (by omega) (by omega) 22 rfl rfl ⟨rfl, ⟨(vi (least_no (fun h => h.elim (by omega) h25))), trivial⟩⟩ rfl rfl
  ·
    refine CJ.exit ?_
    refine EJ.thenE ?_
    refine EJ.thenE ?_
    refine EJ.inE ?_
    refine EJ.thenN (hK3 ?_)
    refine CJ.seq fun _ hK11 _ => ?_
    refine CJ.region ?_
    refine J.p (PR.move rfl) rfl ?_
    refine J.p (PR.assign rfl) rfl ?_
    refine J.nil ?_
    refine EJ.thenN (hK11 ?_)
    refine CJ.ret ?_
    refine EJ.ret1 rfl (Res.tmp rfl) fun w hH => ?_
    replace hH := hH.tail
    obtain rfl : k = ts.length := by omega
    exact ⟨rfl, hH⟩
set_option maxRecDepth 10000 in
theorem isClosed_c {B : World} {H0 H : HP} {L : List SA} {w : World} {ba : Nat} {qad qaf : Option Addr} {cad caf : Nat} {ad : List Int} {af : List (List Term)} {qts : Option Addr} {cts : Nat} {ts : List Term} {Mi Ms : Int} (pad : CellAt H ba 0 (.slice qad ad.length cad)) (paf : CellAt H ba 1 (.slice qaf af.length caf)) (had : Ints H qad ad) (haf : Forms H qaf af) (hts : Terms H qts ts) (hn : ad.length ≤ 8) (hd : ∀ j, 0 ≤ ad.getD j 0 ∧ ad.getD j 0 ≤ 12) (hf : Fok Mi af) (hl : af.length = ad.length) (hs : Sok Ms (toS ts)) (ho : Occ af.length (toS ts)) (hM : 0 ≤ Mi ∧ Ms + Mi + Ms ≤ 1000000) (hll : ts.length ≤ 1000000000) (hH : Hp B H0 H L w) :
    Calls Try.prog 100 [.pointer (some ⟨ba, 0, none⟩), .agg [.slice qts ts.length cts].toArray].toArray w fun e w' => e = .returned (.bool (decide ((dS ad af (toS ts)).length = 0))) ∧ Hp B H0 H L w' := by
  refine CJ.enter Try.func100 rfl 11 rfl rfl [(0, .pointer (some ⟨ba, 0, none⟩)), (1, .agg [.slice qts ts.length cts].toArray)] rfl hH ?_
  clear hH
  refine CJ.seq fun _ hK1 _ => ?_
  refine CJ.region ?_
  refine J.box rfl rfl rfl fun g3 => ?_
  refine J.p (PR.assign rfl) rfl ?_
  refine J.nil ?_
  refine EJ.thenN (hK1 ?_)
  refine CJ.seq fun _ hK2 _ => ?_
  refine CJ.region ?_
  refine J.p (PR.move rfl) rfl ?_
  refine J.p (PR.loadAll rfl At.z (by simpa [*] using ag29)) rfl ?_
  refine J.call fn96 rfl rfl fun w hH => (sumOf_c hts hs (by omega) hH).mono ?_
  rintro _ w ⟨bo7, rfl, hH⟩
  refine ⟨_, rfl, fun a hF => J.of hF hH ?_⟩
  refine J.call fn95 rfl rfl fun w hH => hH.lend .z fun Hl1 hle1 hA1 hB1 hH => (d_c (pad.le hle1) (paf.le hle1) (had.le hle1) (haf.le hle1) (omap_H hA1) hs hn hd hf hl ho hM hH).mono ?_
  rintro _ w ⟨bo8, rfl, hH⟩
  replace hH := hB1 _ _ hH
  refine ⟨_, rfl, fun a hF => J.of hF hH ?_⟩
  refine J.p (PR.lenO u107 rfl (.s .z) rfl) rfl ?_
  refine J.p (PR.eql rfl rfl) rfl ?_
  refine J.p (PR.assign rfl) rfl ?_
  refine J.nil ?_
  refine EJ.thenN (hK2 ?_)
  refine CJ.ret ?_
  refine EJ.ret1 rfl (Res.tmp rfl) fun w hH => ?_
  replace hH := hH.tail
  replace hH := hH.tail
  replace hH := hH.tail
  exact ⟨rb (decide_eq_decide.2 (by omega)), hH⟩
end Go.Proofs.Ytpojpokldncglaa.G
