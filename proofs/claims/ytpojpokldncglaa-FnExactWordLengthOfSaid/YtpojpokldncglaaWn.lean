/- The walks: what each Go function does, shown from its text. No condition. -/
import Derived.Test.YtpojpokldncglaaGSlice
import Derived.Test.YtpojpokldncglaaProg
import Derived.Test.YtpojpokldncglaaWa
import Derived.Test.YtpojpokldncglaaWb
import Derived.Test.YtpojpokldncglaaWc
import Derived.Test.YtpojpokldncglaaWd
import Derived.Test.YtpojpokldncglaaWe
import Derived.Test.YtpojpokldncglaaWf
import Derived.Test.YtpojpokldncglaaWg
import Derived.Test.YtpojpokldncglaaWh
import Derived.Test.YtpojpokldncglaaWi
import Derived.Test.YtpojpokldncglaaWj
import Derived.Test.YtpojpokldncglaaWk
import Derived.Test.YtpojpokldncglaaWl
import Derived.Test.YtpojpokldncglaaWm
set_option linter.unusedVariables false
set_option linter.unusedSimpArgs false
namespace Go.Proofs.Ytpojpokldncglaa.G
open Go Go.RowKit
namespace Wn
theorem u27 : Try.prog.underlying 27 = some (TypeDesc.slice 88) := by kernel_rfl
theorem u88 : Try.prog.underlying 88 = some (TypeDesc.struct #[{ name := "Monomial", type := 86, offset := 0, embedded := false, tag := "", pkgPath := "", byteOffset := 0 }, { name := "Factor", type := 2, offset := 8, embedded := false, tag := "", pkgPath := "", byteOffset := 8 }]) := by kernel_rfl
theorem sz88 : Size Try.prog 88 9 := by unfold Size; kernel_rfl
theorem by88 : Bytes Try.prog 88 16 := by unfold Bytes; kernel_rfl
theorem ze88 : Zero Try.prog 88 [.int .u8 0, .int .u8 0, .int .u8 0, .int .u8 0, .int .u8 0, .int .u8 0, .int .u8 0, .int .u8 0, .int .i64 0] := by unfold Zero; kernel_rfl
theorem ag88 : Agg Try.prog 88 9 := ⟨_, u88, rfl, by kernel_rfl⟩
end Wn
open Wn

/-- a closure over terms: what it answers; it reads what is fixed alone -/
def ClT (B : World) (H0 H : HP) (g : Nat) (cap : Array Value) (p : Term → Bool) : Prop := ∀ (H' : HP) (L : List SA) (w : World) (x : Term), Le H H' → x.wf → Hp B H0 H' L w → Calls Try.prog g (#[] ++ [.agg x.c.toArray].toArray ++ cap) w fun e w' => e = .returned (.bool (p x)) ∧ Hp B H0 H' L w'
theorem ClT.le {B : World} {H0 H H' : HP} {g : Nat} {cap : Array Value} {p : Term → Bool} (h : ClT B H0 H g cap p) (hle : Le H H') : ClT B H0 H' g cap p := fun H2 L w x h2 => h H2 L w x (hle.trans h2)
def ClP (B : World) (H0 H : HP) (g : Nat) (cap : Array Value) (p : List Int → Bool) : Prop := ∀ (H' : HP) (L : List SA) (w : World) (x : List Int), Le H H' → x.length = 8 → Small x → Hp B H0 H' L w → Calls Try.prog g (#[] ++ [.agg (intsC x).toArray].toArray ++ cap) w fun e w' => e = .returned (.bool (p x)) ∧ Hp B H0 H' L w'
theorem ClP.le {B : World} {H0 H H' : HP} {g : Nat} {cap : Array Value} {p : List Int → Bool} (h : ClP B H0 H g cap p) (hle : Le H H') : ClP B H0 H' g cap p := fun H2 L w x h2 => h H2 L w x (hle.trans h2)
def idxT (xs : List Term) (p : Term → Bool) : Int := if xs.any p then (xs.findIdx p : Int) else -1
theorem tm_eq {xs : List Term} {j : Nat} (hj : j < xs.length) : xs[j] = tm xs j := by simp [tm, List.getD_eq_getElem?_getD, List.getElem?_eq_getElem hj]
theorem idxT_hit {xs : List Term} {p : Term → Bool} {k : Nat} (hk : k < xs.length) (h : ∀ j, j < k → p (tm xs j) = false) (hp : p (tm xs k) = true) : idxT xs p = k := by
  unfold idxT
  have ha : xs.any p = true := List.any_eq_true.2 ⟨xs[k], List.getElem_mem hk, by rw [tm_eq]; exact hp⟩
  rw [if_pos ha]
  have : xs.findIdx p = k := by
    rw [List.findIdx_eq hk]
    exact ⟨by rw [tm_eq]; exact hp, fun j hj => by rw [tm_eq]; exact h j hj⟩
  rw [this]
theorem idxT_miss {xs : List Term} {p : Term → Bool} (h : ∀ j, j < xs.length → p (tm xs j) = false) : idxT xs p = -1 := by
  unfold idxT
  rw [if_neg]
  intro ha
  obtain ⟨x, hx, hp⟩ := List.any_eq_true.1 ha
  obtain ⟨j, hj, rfl⟩ := List.mem_iff_getElem.1 hx
  rw [tm_eq hj, h j hj] at hp
  cases hp

set_option maxRecDepth 10000 in
theorem CloneT_c {B : World} {H0 H : HP} {L : List SA} {w : World} {qxs : Option Addr} {cxs : Nat} {xs : List Term}  (hxs : Terms H qxs xs) (hn : xs.length ≤ 1048576) (hH : Hp B H0 H L w) :
    Calls Try.prog 132 [.slice qxs xs.length cxs].toArray w fun e w' => ∃ q c, e = .returned (.slice q xs.length c) ∧ Hp B H0 H (own 88 9 q xs.length c (tsC xs) :: L) w' := by
  refine CJ.enter Try.func132 rfl 8 rfl rfl [(0, .slice qxs xs.length cxs)] rfl hH ?_
  clear hH
  refine CJ.seq fun _ hK1 _ => ?_
  refine CJ.region ?_
  refine J.p (PR.assign rfl) rfl ?_
  refine J.nil ?_
  refine EJ.thenN (hK1 ?_)
  refine CJ.seq fun _ hK2 _ => ?_
  refine CJ.seq fun _ hK3 _ => ?_
  refine CJ.region ?_
  refine J.p (PR.move rfl) rfl ?_
  refine J.p (PR.eqlNil u27 rfl rfl) rfl ?_
  refine J.nil ?_
  refine EJ.thenN (hK3 ?_)
  refine CJ.cond rfl (fun h4 => ?_) (fun h4 => ?_)
  ·
    refine CJ.seq fun _ hK4 _ => ?_
    refine CJ.region ?_
    refine J.p (PR.assign rfl) rfl ?_
    refine J.nil ?_
    refine EJ.thenN (hK4 ?_)
    refine CJ.ret ?_
    refine EJ.thenR ?_
    refine EJ.ret1 rfl (Res.tmp rfl) fun w hH => ?_
    replace hH := hH.sublist (List.Sublist.refl _)
    have e1 := hxs.none_nil h4
    subst e1
    exact ⟨none, 0, rfl, hH.own0 88 9⟩
  ·
    refine CJ.skip ?_
    refine EJ.thenN (hK2 ?_)
    refine CJ.seq fun _ hK5 _ => ?_
    refine CJ.region ?_
    refine J.mk (MK.lit0T u27 sz88) rfl fun qo5 co5 => ?_
    refine J.p (PR.move rfl) rfl ?_
    refine J.appendHT u27 ze88 sz88 by88 rfl rfl hxs (by simp; omega) At.z (fun _ _ => At.z) rfl fun qo7 co7 => ?_
    refine J.p (PR.assign rfl) rfl ?_
    refine J.nil ?_
    refine EJ.thenN (hK5 ?_)
    refine CJ.ret ?_
    refine EJ.ret1 rfl (Res.tmp rfl) fun w hH => ?_
    replace hH := hH.sublist (.cons_cons _ (List.Sublist.refl _))
    exact ⟨_, _, rfl, hH⟩
set_option maxRecDepth 10000 in
theorem IndexFuncT_c {B : World} {H0 H : HP} {L : List SA} {w : World} {qxs : Option Addr} {cxs : Nat} {xs : List Term} {gp : Nat} {capp : Array Value} {p : Term → Bool}  (hxs : Terms H qxs xs) (hgp : Fn Try.prog gp) (hp : ClT B H0 H gp capp p) (hn : xs.length ≤ 9223372036854775807) (hH : Hp B H0 H L w) :
    Calls Try.prog 169 [.slice qxs xs.length cxs, .func (.func gp) #[] capp].toArray w fun e w' => e = .returned (.int .i64 (idxT xs p)) ∧ Hp B H0 H L w' := by
  refine CJ.enter Try.func169 rfl 19 rfl rfl [(0, .slice qxs xs.length cxs), (1, .func (.func gp) #[] capp)] rfl hH ?_
  clear hH
  refine CJ.seq fun _ hK1 _ => ?_
  refine CJ.region ?_
  refine J.p (PR.assign rfl) rfl ?_
  refine J.nil ?_
  refine EJ.thenN (hK1 ?_)
  refine CJ.seq fun _ hK2 _ => ?_
  refine CJ.seq fun _ hK3 _ => ?_
  refine CJ.region ?_
  refine J.p (PR.move rfl) rfl ?_
  refine J.p (PR.lenSlice u27 rfl rfl) rfl ?_
  refine J.p (PR.move rfl) rfl ?_
  refine J.nil ?_
  refine EJ.thenN (hK3 ?_)
  refine CJ.block ?_
  refine CJ.loopU (σ := Nat) (fun (k : Nat) => [(8, .int .i64 (k : Int))]) (fun (k : Nat) => H) (fun (k : Nat) => L) (fun (k : Nat) => k ≤ xs.length ∧ ∀ j, j < k → p (tm xs j) = false) (fun (k : Nat) => xs.length - k) 0 ⟨by omega, fun j hj => by omega⟩ ⟨rfl, trivial⟩ rfl rfl ?_
  rintro k hI _ hAg0
  have hk := hI.1
  refine CJ.seq fun _ hK4 _ => ?_
  refine CJ.region ?_
  refine J.p (PR.lss rfl rfl) rfl ?_
  refine J.nil ?_
  refine EJ.thenN (hK4 ?_)
  refine CJ.seq fun _ hK5 _ => ?_
  refine CJ.condD rfl (fun hc9 => ?_) (fun hc9 => ?_)
  ·
    refine CJ.skip ?_
    refine EJ.thenN (hK5 ?_)
    refine CJ.seq fun _ hK6 _ => ?_
    refine CJ.block ?_
    refine CJ.seq fun _ hK7 _ => ?_
    refine CJ.region ?_
    refine J.p (PR.move rfl) rfl ?_
    refine J.p (PR.assign rfl) rfl ?_
    refine J.nil ?_
    refine EJ.thenN (hK7 ?_)
    refine CJ.seq fun _ hK8 _ => ?_
    refine CJ.region ?_
    refine J.p (PR.move rfl) rfl ?_
    refine J.p (PR.move rfl) rfl ?_
    refine J.p (PR.move rfl) rfl ?_
    refine J.p (PR.idx u27 sz88 rfl rfl rfl (by omega) hxs.sm) rfl ?_
    refine J.p (PR.loadHagg rfl (hxs.cell _ (by omega)) (hxs.sm (i := k) (by omega)) (by rw [Term.c_length (hxs.wf _ (by omega))]; exact ag88)) rfl ?_
    refine J.callV hgp rfl rfl rfl fun w hH => (hp _ _ w _ (Le.refl _) (hxs.wf k (by omega)) hH).mono ?_
    rintro _ w ⟨rfl, hH⟩
    refine ⟨_, rfl, fun a hF => J.of hF hH ?_⟩
    refine J.nil ?_
    refine EJ.thenN (hK8 ?_)
    refine CJ.cond rfl (fun h16 => ?_) (fun h16 => ?_)
    ·
      refine CJ.seq fun _ hK9 _ => ?_
      refine CJ.region ?_
      refine J.p (PR.move rfl) rfl ?_
      refine J.p (PR.assign rfl) rfl ?_
      refine J.nil ?_
      refine EJ.thenN (hK9 ?_)
      refine CJ.ret ?_
      refine EJ.inR ?_
      refine EJ.thenR ?_
      refine EJ.thenR ?_
      refine EJ.inR ?_
      refine EJ.thenR ?_
      refine EJ.ret1 rfl (Res.tmp rfl) fun w hH => ?_
      exact ⟨ri (idxT_hit (by omega) hI.2 h16).symm, hH⟩
    ·
      refine CJ.skip ?_
      refine EJ.inN ?_
      refine EJ.thenN (hK6 ?_)
      refine CJ.region ?_
      refine J.p (PR.add rfl rfl (by first | exact nw _ (by omega) | rfl)) rfl ?_
      refine J.p (PR.move rfl) rfl ?_
      refine J.nil ?_
      refine EJ.thenN ?_
      exact hAg0 (k + 1) ⟨by omega, upto hI.2 h16⟩ (by omega) 12 rfl rfl ⟨rfl, trivial⟩ rfl rfl
  ·
    refine CJ.exit ?_
    refine EJ.thenE ?_
    refine EJ.thenE ?_
    refine EJ.inE ?_
    refine EJ.thenN (hK2 ?_)
    refine CJ.seq fun _ hK10 _ => ?_
    refine CJ.region ?_
    refine J.p (PR.assign rfl) rfl ?_
    refine J.nil ?_
    refine EJ.thenN (hK10 ?_)
    refine CJ.ret ?_
    refine EJ.ret1 rfl (Res.tmp rfl) fun w hH => ?_
    exact ⟨ri (idxT_miss (fun j hj => hI.2 j (by omega))).symm, hH⟩
end Go.Proofs.Ytpojpokldncglaa.G
