/- What an algebra is; searches among forms; the reference's question. No condition. -/
import Derived.Test.YtpojpokldncglaaGMap
import Derived.Test.YtpojpokldncglaaProg
import Derived.Test.YtpojpokldncglaaWa
import Derived.Test.YtpojpokldncglaaWb
import Derived.Test.YtpojpokldncglaaWc
import Derived.Test.YtpojpokldncglaaWd
import Derived.Test.YtpojpokldncglaaWe
import Derived.Test.YtpojpokldncglaaWf
import Derived.Test.YtpojpokldncglaaWg
import Derived.Test.YtpojpokldncglaaWh
import Derived.Test.YtpojpokldncglaaWi
import Derived.Test.YtpojpokldncglaaWj
import Derived.Test.YtpojpokldncglaaWk
import Derived.Test.YtpojpokldncglaaWl
import Derived.Test.YtpojpokldncglaaWm
import Derived.Test.YtpojpokldncglaaWn
import Derived.Test.YtpojpokldncglaaWo
import Derived.Test.YtpojpokldncglaaWp
import Derived.Test.YtpojpokldncglaaXa
import Derived.Test.YtpojpokldncglaaXb
import Derived.DeepKeys4
import Derived.Test.YtpojpokldncglaaXc
import Derived.Test.YtpojpokldncglaaXd
import Derived.Test.YtpojpokldncglaaXe
import Derived.Test.YtpojpokldncglaaXf
import Derived.Test.YtpojpokldncglaaXg
import Derived.Test.YtpojpokldncglaaXh
import Derived.Test.YtpojpokldncglaaXi
import Derived.Test.YtpojpokldncglaaXj
import Derived.Test.YtpojpokldncglaaXk
import Derived.Test.YtpojpokldncglaaXl
import Derived.Test.YtpojpokldncglaaXm
import Derived.Test.YtpojpokldncglaaXn
import Derived.Test.YtpojpokldncglaaXo
set_option linter.unusedVariables false
set_option linter.unusedSimpArgs false
namespace Go.Proofs.Ytpojpokldncglaa.G
open Go Go.RowKit
namespace Xp
theorem u29 : Try.prog.underlying 29 = some (TypeDesc.struct #[{ name := "Terms", type := 27, offset := 0, embedded := false, tag := "", pkgPath := "", byteOffset := 0 }]) := by kernel_rfl
theorem u39 : Try.prog.underlying 39 = some (TypeDesc.slice 29) := by kernel_rfl
theorem sz29 : Size Try.prog 29 1 := by unfold Size; kernel_rfl
theorem ag29 : Agg Try.prog 29 1 := ⟨_, u29, rfl, by kernel_rfl⟩
theorem fn142 : Fn Try.prog 142 := ⟨_, Try.func142, by kernel_rfl, rfl⟩
theorem fn143 : Fn Try.prog 143 := ⟨_, Try.func143, by kernel_rfl, rfl⟩
end Xp
open Xp

/-- a closure over forms of a kind: what it answers; it reads what is fixed alone -/
def ClF (B : World) (H0 H : HP) (g : Nat) (cap : Array Value) (S : List Term → Prop) (p : List Term → Bool) : Prop := ∀ (H' : HP) (L : List SA) (w : World) (q : Option Addr) (c : Nat) (x : List Term), Le H H' → S x → Terms H' q x → Hp B H0 H' L w → Calls Try.prog g (#[] ++ [.agg [.slice q x.length c].toArray].toArray ++ cap) w fun e w' => e = .returned (.bool (p x)) ∧ Hp B H0 H' L w'
theorem ClF.le {B : World} {H0 H H' : HP} {g : Nat} {cap : Array Value} {S : List Term → Prop} {p : List Term → Bool} (h : ClF B H0 H g cap S p) (hle : Le H H') : ClF B H0 H' g cap S p := fun H2 L w q c x h2 => h H2 L w q c x (hle.trans h2)
def idxF (xs : List (List Term)) (p : List Term → Bool) : Int := if xs.any p then (xs.findIdx p : Int) else -1
theorem fm_eq {xs : List (List Term)} {j : Nat} (hj : j < xs.length) : xs[j] = fm xs j := by simp [fm, List.getD_eq_getElem?_getD, List.getElem?_eq_getElem hj]
theorem fm_mem {xs : List (List Term)} {j : Nat} (hj : j < xs.length) : fm xs j ∈ xs := by rw [← fm_eq hj]; exact List.getElem_mem hj
theorem idxF_hit {xs : List (List Term)} {p : List Term → Bool} {k : Nat} (hk : k < xs.length) (h : ∀ j, j < k → p (fm xs j) = false) (hp : p (fm xs k) = true) : idxF xs p = k := by
  unfold idxF
  have ha : xs.any p = true := List.any_eq_true.2 ⟨xs[k], List.getElem_mem hk, by rw [fm_eq]; exact hp⟩
  rw [if_pos ha]
  have : xs.findIdx p = k := by
    rw [List.findIdx_eq hk]
    exact ⟨by rw [fm_eq]; exact hp, fun j hj => by rw [fm_eq]; exact h j hj⟩
  rw [this]
theorem idxF_miss {xs : List (List Term)} {p : List Term → Bool} (h : ∀ j, j < xs.length → p (fm xs j) = false) : idxF xs p = -1 := by
  unfold idxF
  rw [if_neg]
  intro ha
  obtain ⟨x, hx, hp⟩ := List.any_eq_true.1 ha
  obtain ⟨j, hj, rfl⟩ := List.mem_iff_getElem.1 hx
  rw [fm_eq hj, h j hj] at hp
  cases hp
theorem idxF_ge (xs : List (List Term)) (p : List Term → Bool) : decide (idxF xs p ≥ 0) = xs.any p := by
  unfold idxF
  cases h : xs.any p with
  | true => rw [if_pos rfl]; exact decide_eq_true (by omega)
  | false => rw [if_neg (by simp)]; exact decide_eq_false (by omega)
/-! ### algebras -/
def degOk (ds : List Int) (ts : List Term) (x : Int) : Bool := homog ds ts && (decide (degF ds ts = -1) || decide (degF ds ts = x))
def imOk (ds : List Int) (fs : List (List Term)) (i : Nat) : Bool := isForm ds (fm fs i) && degOk ds (fm fs i) (ds.getD i 0 + 1)
def imsOk (ds : List Int) (fs : List (List Term)) : Bool := (List.range fs.length).all (imOk ds fs)
def noD (ds : List Int) (fs : List (List Term)) : Bool := (List.range fs.length).all fun i => decide ((dS ds fs (toS (fm fs i))).length = 0)
def isAlg (ds : List Int) (fs : List (List Term)) : Bool := isDeg ds && decide (fs.length = ds.length) && imsOk ds fs && noD ds fs
theorem imsOk_bad {ds : List Int} {fs : List (List Term)} {i : Nat} (hi : i < fs.length) (h : imOk ds fs i = false) : imsOk ds fs = false := List.all_eq_false.2 ⟨i, by simpa using hi, by simp [h]⟩
theorem imsOk_good {ds : List Int} {fs : List (List Term)} (h : ∀ j, j < fs.length → imOk ds fs j = true) : imsOk ds fs = true := List.all_eq_true.2 fun j hj => h j (by simpa using hj)
theorem imsOk_at {ds : List Int} {fs : List (List Term)} (h : imsOk ds fs = true) {i : Nat} (hi : i < fs.length) : imOk ds fs i = true := List.all_eq_true.1 h i (by simpa using hi)
theorem noD_bad {ds : List Int} {fs : List (List Term)} {i : Nat} (hi : i < fs.length) (h : ¬ (dS ds fs (toS (fm fs i))).length = 0) : noD ds fs = false := List.all_eq_false.2 ⟨i, by simpa using hi, by simpa using h⟩
theorem noD_good {ds : List Int} {fs : List (List Term)} (h : ∀ j, j < fs.length → (dS ds fs (toS (fm fs j))).length = 0) : noD ds fs = true := List.all_eq_true.2 fun j hj => by simpa using h j (by simpa using hj)
theorem isMono_le {ds m : List Int} (h : isMono ds m = true) {j : Nat} (hj : j < 8) : m.getD j 0 ≤ most ds j := by
  unfold isMono at h
  simpa using List.all_eq_true.1 h j (by simpa using hj)
theorem isMono_pok {ds m : List Int} (h : isMono ds m = true) (hm : Mono m) : Pok 20 m := ⟨hm.len, fun j => by
  have b := hm.bd j
  rcases Nat.lt_or_ge j 8 with hj | hj
  · have := isMono_le h hj
    unfold most at this
    split at this
    · split at this <;> omega
    · omega
  · rw [getD_ge (by rw [hm.len]; omega)]
    omega⟩
theorem isMono_ex {ds m : List Int} (hd : ∀ j, 0 ≤ ds.getD j 0 ∧ ds.getD j 0 ≤ 12) (hn : ds.length ≤ 8) (h : isMono ds m = true) (hm : Mono m) : Ex ds m := ⟨fun i hi => by
    rcases Nat.lt_or_ge i 8 with hj | hj
    · have a := isMono_le h hj
      have b := (hm.bd i).1
      rw [most_ge (by omega)] at a
      omega
    · exact getD_ge (by rw [hm.len]; omega), fun i hi ho => by
    have a := isMono_le h (j := i) (by omega)
    rw [most_odd (by omega) ho (hd i).1] at a
    exact a⟩
theorem isForm_at {ds : List Int} {ts : List Term} (h : isForm ds ts = true) {i : Nat} (hi : i < ts.length) : goodAt ds ts i = true := by
  unfold isForm at h
  exact List.all_eq_true.1 (Bool.and_eq_true_iff.1 h).2 i (by simpa using hi)
theorem srt_of {s : Sm} : (∀ i, 0 < i → i < s.length → before (s.getD (i - 1) ([], 0)).1 (s.getD i ([], 0)).1 = true) → s.Pairwise fun x y => before x.1 y.1 = true := by
  induction s with
  | nil => intro _; exact List.Pairwise.nil
  | cons x s ih =>
    intro h
    have h2 := ih fun i h0 hi => by
      have := h (i + 1) (by omega) (by simp; omega)
      simp only [Nat.add_sub_cancel, List.getD_cons_succ] at this
      rw [show i = (i - 1) + 1 by omega, List.getD_cons_succ] at this
      rwa [show i - 1 + 1 = i by omega] at this
    refine List.pairwise_cons.2 ⟨fun y hy => ?_, h2⟩
    cases s with
    | nil => simp at hy
    | cons z s =>
      have hz : before x.1 z.1 = true := by simpa using h 1 (by omega) (by simp)
      rcases List.mem_cons.1 hy with rfl | hy
      · exact hz
      · exact before_tr hz ((List.pairwise_cons.1 h2).1 y hy)
theorem toS_getD {ts : List Term} {i : Nat} (hi : i < ts.length) : (toS ts).getD i ([], 0) = ((tm ts i).mono, (tm ts i).fac) := by
  simp [toS, tm, List.getD_eq_getElem?_getD, hi]
theorem isForm_sok {ds : List Int} {ts : List Term} (hw : Wfs ts) (h : isForm ds ts = true) : Sok 20 (toS ts) := by
  have hg : ∀ i, i < ts.length → isMono ds (tm ts i).mono = true ∧ (1 ≤ (tm ts i).fac ∧ (tm ts i).fac ≤ 10006) ∧ (i = 0 ∨ before (tm ts (i - 1)).mono (tm ts i).mono = true) := fun i hi => by
    have := isForm_at h hi
    unfold goodAt at this
    simpa [and_assoc] using this
  refine ⟨srt_of fun i h0 hi => ?_, fun x hx => ?_, fun x hx => ?_⟩
  · rw [toS_len] at hi
    rw [toS_getD hi, toS_getD (by omega)]
    exact (hg i hi).2.2.resolve_left (by omega)
  · obtain ⟨t, ht, rfl⟩ := toS_mem hx
    obtain ⟨i, hi, rfl⟩ := List.mem_iff_getElem.1 ht
    rw [tm_eq hi]
    exact isMono_pok (hg i hi).1 (hw _ (by rw [← tm_eq hi]; exact ht)).mono
  · obtain ⟨t, ht, rfl⟩ := toS_mem hx
    obtain ⟨i, hi, rfl⟩ := List.mem_iff_getElem.1 ht
    rw [tm_eq hi]
    exact (hg i hi).2.1
theorem isForm_kex {ds : List Int} {ts : List Term} (hd : ∀ j, 0 ≤ ds.getD j 0 ∧ ds.getD j 0 ≤ 12) (hn : ds.length ≤ 8) (hw : Wfs ts) (h : isForm ds ts = true) : KEx ds (toS ts) := fun x hx => by
  obtain ⟨t, ht, rfl⟩ := toS_mem hx
  obtain ⟨i, hi, rfl⟩ := List.mem_iff_getElem.1 ht
  have := isForm_at h hi
  unfold goodAt at this
  rw [tm_eq hi]
  exact isMono_ex hd hn (by simp at this; exact this.1.1) (hw _ (by rw [← tm_eq hi]; exact ht)).mono
theorem isForm_len4 {ds : List Int} {ts : List Term} (h : isForm ds ts = true) : ts.length ≤ 400 := by
  unfold isForm at h
  simpa using (Bool.and_eq_true_iff.1 h).1
theorem Wfss.fm {fs : List (List Term)} (h : Wfss fs) (i : Nat) : Wfs (G.fm fs i) := by
  rcases Nat.lt_or_ge i fs.length with hi | hi
  · exact h _ (fm_mem hi)
  · rw [G.fm, List.getD_eq_getElem?_getD, List.getElem?_eq_none hi]
    exact Wfs.nil
structure AlgOk (ds : List Int) (fs : List (List Term)) : Prop where
  hn : ds.length ≤ 8
  hd : ∀ j, 0 ≤ ds.getD j 0 ∧ ds.getD j 0 ≤ 12
  hl : fs.length = ds.length
  ok : ∀ i, i < fs.length → isForm ds (fm fs i) = true
  wf : Wfss fs
theorem AlgOk.fok {ds : List Int} {fs : List (List Term)} (h : AlgOk ds fs) : Fok 20 fs := fun i hi => ⟨isForm_sok (h.wf.fm i) (h.ok i hi), by have := isForm_len4 (h.ok i hi); omega⟩
theorem AlgOk.kex {ds : List Int} {fs : List (List Term)} (h : AlgOk ds fs) : ∀ i, i < fs.length → KEx ds (toS (G.fm fs i)) := fun i hi => isForm_kex h.hd h.hn (h.wf.fm i) (h.ok i hi)
theorem AlgOk.len {ds : List Int} {fs : List (List Term)} (h : AlgOk ds fs) : ∀ i, i < fs.length → (G.fm fs i).length ≤ 10000 := fun i hi => by have := isForm_len4 (h.ok i hi); omega
theorem AlgOk.of {ds : List Int} {fs : List (List Term)} (hD : isDeg ds = true) (hl : fs.length = ds.length) (hi : imsOk ds fs = true) (hw : Wfss fs) : AlgOk ds fs := ⟨isDeg_len hD, isDeg_bd hD, hl, fun i h => (Bool.and_eq_true_iff.1 (imsOk_at hi h)).1, hw⟩
theorem isAlg_ok {ds : List Int} {fs : List (List Term)} (h : isAlg ds fs = true) (hw : Wfss fs) : AlgOk ds fs := by
  unfold isAlg at h
  simp only [Bool.and_eq_true, decide_eq_true_eq] at h
  exact AlgOk.of h.1.1.1 h.1.1.2 h.1.2 hw
theorem degF_neg {ds : List Int} {ts : List Term} (hn : ds.length ≤ 8) (hd : ∀ j, 0 ≤ ds.getD j 0 ∧ ds.getD j 0 ≤ 12) (hw : Wfs ts) (hh : homog ds ts = true) : degF ds ts = -1 ↔ ¬ (0 < ts.length) := by
  unfold degF outAt
  rw [hh, if_pos rfl]
  by_cases e : ts.length = 0
  · rw [if_pos e]; omega
  · rw [if_neg e]
    have := wd_bd (i := 0) (ts := ts) hn hd (hw _ (by rw [← tm_eq (by omega)]; exact List.getElem_mem (by omega))).mono
    omega

set_option maxRecDepth 10000 in
theorem IndexFuncF_c {B : World} {H0 H : HP} {L : List SA} {w : World} {qxs : Option Addr} {cxs : Nat} {xs : List (List Term)} {gp : Nat} {capp : Array Value} {Sp : List Term → Prop} {p : List Term → Bool}  (hxs : Forms H qxs xs) (hgp : Fn Try.prog gp) (hp : ClF B H0 H gp capp Sp p) (hn : xs.length ≤ 9223372036854775807) (hS : ∀ i, i < xs.length → Sp (fm xs i)) (hH : Hp B H0 H L w) :
    Calls Try.prog 143 [.slice qxs xs.length cxs, .func (.func gp) #[] capp].toArray w fun e w' => e = .returned (.int .i64 (idxF xs p)) ∧ Hp B H0 H L w' := by
  refine CJ.enter Try.func143 rfl 19 rfl rfl [(0, .slice qxs xs.length cxs), (1, .func (.func gp) #[] capp)] rfl hH ?_
  clear hH
  refine CJ.seq fun _ hK1 _ => ?_
  refine CJ.region ?_
  refine J.p (PR.assign rfl) rfl ?_
  refine J.nil ?_
  refine EJ.thenN (hK1 ?_)
  refine CJ.seq fun _ hK2 _ => ?_
  refine CJ.seq fun _ hK3 _ => ?_
  refine CJ.region ?_
  refine J.p (PR.move rfl) rfl ?_
  refine J.p (PR.lenSlice u39 rfl rfl) rfl ?_
  refine J.p (PR.move rfl) rfl ?_
  refine J.nil ?_
  refine EJ.thenN (hK3 ?_)
  refine CJ.block ?_
  refine CJ.loopU (σ := Nat) (fun (k : Nat) => [(8, .int .i64 (k : Int))]) (fun (k : Nat) => H) (fun (k : Nat) => L) (fun (k : Nat) => k ≤ xs.length ∧ ∀ j, j < k → p (fm xs j) = false) (fun (k : Nat) => xs.length - k) 0 ⟨by omega, fun j hj => by omega⟩ ⟨rfl, trivial⟩ rfl rfl ?_
  rintro k hI _ hAg0
  have hk := hI.1
  refine CJ.seq fun _ hK4 _ => ?_
  refine CJ.region ?_
  refine J.p (PR.lss rfl rfl) rfl ?_
  refine J.nil ?_
  refine EJ.thenN (hK4 ?_)
  refine CJ.seq fun _ hK5 _ => ?_
  refine CJ.condD rfl (fun hc9 => ?_) (fun hc9 => ?_)
  ·
    refine CJ.skip ?_
    refine EJ.thenN (hK5 ?_)
    refine CJ.seq fun _ hK6 _ => ?_
    refine CJ.block ?_
    refine CJ.seq fun _ hK7 _ => ?_
    refine CJ.region ?_
    refine J.p (PR.move rfl) rfl ?_
    refine J.p (PR.assign rfl) rfl ?_
    refine J.nil ?_
    refine EJ.thenN (hK7 ?_)
    refine CJ.seq fun _ hK8 _ => ?_
    refine CJ.region ?_
    refine J.p (PR.move rfl) rfl ?_
    refine J.p (PR.move rfl) rfl ?_
    refine J.p (PR.move rfl) rfl ?_
    refine J.p (PR.idx1 u39 sz29 rfl rfl rfl (by omega) hxs.sm) rfl ?_
    obtain ⟨qe15, ce15, he15, le15, Fe15⟩ := hxs k (by omega)
    refine J.p (PR.loadHagg (cs := [_]) rfl (one_cell he15) (hxs.sm (i := k) (by omega)) ag29) rfl ?_
    refine J.callV hgp rfl rfl rfl fun w hH => (hp _ _ w _ _ _ (Le.refl _) (hS _ (by omega)) Fe15 hH).mono ?_
    rintro _ w ⟨rfl, hH⟩
    refine ⟨_, rfl, fun a hF => J.of hF hH ?_⟩
    refine J.nil ?_
    refine EJ.thenN (hK8 ?_)
    refine CJ.cond rfl (fun h16 => ?_) (fun h16 => ?_)
    ·
      refine CJ.seq fun _ hK9 _ => ?_
      refine CJ.region ?_
      refine J.p (PR.move rfl) rfl ?_
      refine J.p (PR.assign rfl) rfl ?_
      refine J.nil ?_
      refine EJ.thenN (hK9 ?_)
      refine CJ.ret ?_
      refine EJ.inR ?_
      refine EJ.thenR ?_
      refine EJ.thenR ?_
      refine EJ.inR ?_
      refine EJ.thenR ?_
      refine EJ.ret1 rfl (Res.tmp rfl) fun w hH => ?_
      exact ⟨ri (idxF_hit (by omega) hI.2 h16).symm, hH⟩
    ·
      refine CJ.skip ?_
      refine EJ.inN ?_
      refine EJ.thenN (hK6 ?_)
      refine CJ.region ?_
      refine J.p (PR.add rfl rfl (by first | exact nw _ (by omega) | rfl)) rfl ?_
      refine J.p (PR.move rfl) rfl ?_
      refine J.nil ?_
      refine EJ.thenN ?_
      exact hAg0 (k + 1) ⟨by omega, upto hI.2 h16⟩ (by omega) 12 rfl rfl ⟨rfl, trivial⟩ rfl rfl
  ·
    refine CJ.exit ?_
    refine EJ.thenE ?_
    refine EJ.thenE ?_
    refine EJ.inE ?_
    refine EJ.thenN (hK2 ?_)
    refine CJ.seq fun _ hK10 _ => ?_
    refine CJ.region ?_
    refine J.p (PR.assign rfl) rfl ?_
    refine J.nil ?_
    refine EJ.thenN (hK10 ?_)
    refine CJ.ret ?_
    refine EJ.ret1 rfl (Res.tmp rfl) fun w hH => ?_
    exact ⟨ri (idxF_miss (fun j hj => hI.2 j (by omega))).symm, hH⟩
set_option maxRecDepth 10000 in
theorem ContainsFuncF_c {B : World} {H0 H : HP} {L : List SA} {w : World} {qxs : Option Addr} {cxs : Nat} {xs : List (List Term)} {gp : Nat} {capp : Array Value} {Sp : List Term → Prop} {p : List Term → Bool}  (hxs : Forms H qxs xs) (hgp : Fn Try.prog gp) (hp : ClF B H0 H gp capp Sp p) (hn : xs.length ≤ 9223372036854775807) (hS : ∀ i, i < xs.length → Sp (fm xs i)) (hH : Hp B H0 H L w) :
    Calls Try.prog 93 [.slice qxs xs.length cxs, .func (.func gp) #[] capp].toArray w fun e w' => e = .returned (.bool (xs.any p)) ∧ Hp B H0 H L w' := by
  refine CJ.enter Try.func93 rfl 9 rfl rfl [(0, .slice qxs xs.length cxs), (1, .func (.func gp) #[] capp)] rfl hH ?_
  clear hH
  refine CJ.seq fun _ hK1 _ => ?_
  refine CJ.region ?_
  refine J.p (PR.assign rfl) rfl ?_
  refine J.nil ?_
  refine EJ.thenN (hK1 ?_)
  refine CJ.seq fun _ hK2 _ => ?_
  refine CJ.region ?_
  refine J.p (PR.move rfl) rfl ?_
  refine J.p (PR.move rfl) rfl ?_
  refine J.call fn143 rfl rfl fun w hH => (IndexFuncF_c hxs hgp hp (by omega) hS hH).mono ?_
  rintro _ w ⟨rfl, hH⟩
  refine ⟨_, rfl, fun a hF => J.of hF hH ?_⟩
  refine J.p (PR.geq rfl rfl) rfl ?_
  refine J.p (PR.assign rfl) rfl ?_
  refine J.nil ?_
  refine EJ.thenN (hK2 ?_)
  refine CJ.ret ?_
  refine EJ.ret1 rfl (Res.tmp rfl) fun w hH => ?_
  exact ⟨rb (idxF_ge xs p), hH⟩
set_option maxRecDepth 10000 in
theorem isOfDegree_c {B : World} {H0 H : HP} {L : List SA} {w : World} {qds : Option Addr} {cds : Nat} {ds : List Int} {qts : Option Addr} {cts : Nat} {ts : List Term} {x : Int}  (hds : Ints H qds ds) (hts : Terms H qts ts) (hn : ds.length ≤ 8) (hd : ∀ j, 0 ≤ ds.getD j 0 ∧ ds.getD j 0 ≤ 12) (hl : ts.length ≤ 9223372036854775807) (hH : Hp B H0 H L w) :
    Calls Try.prog 92 [.slice qds ds.length cds, .agg [.slice qts ts.length cts].toArray, .int .i64 x].toArray w fun e w' => e = .returned (.bool (degOk ds ts x)) ∧ Hp B H0 H L w' := by
  refine CJ.enter Try.func92 rfl 25 rfl rfl [(0, .slice qds ds.length cds), (1, .agg [.slice qts ts.length cts].toArray), (2, .int .i64 x)] rfl hH ?_
  clear hH
  refine CJ.seq fun _ hK1 _ => ?_
  refine CJ.region ?_
  refine J.box rfl rfl rfl fun g4 => ?_
  refine J.p (PR.assign rfl) rfl ?_
  refine J.nil ?_
  refine EJ.thenN (hK1 ?_)
  refine CJ.seq fun _ hK2 _ => ?_
  refine CJ.region ?_
  refine J.p (PR.move rfl) rfl ?_
  refine J.p (PR.loadAll rfl At.z (by simpa [*] using ag29)) rfl ?_
  refine J.call fn142 rfl rfl fun w hH => (degreeOf_c hds hts hn hd (by omega) hH).mono ?_
  rintro _ w ⟨rfl, hH⟩
  refine ⟨_, rfl, fun a hF => J.of hF hH ?_⟩
  refine J.p (PR.move rfl) rfl ?_
  refine J.p (PR.extract rfl rfl) rfl ?_
  refine J.p (PR.extract rfl rfl) rfl ?_
  refine J.p (PR.assign rfl) rfl ?_
  refine J.p (PR.assign rfl) rfl ?_
  refine J.nil ?_
  refine EJ.thenN (hK2 ?_)
  refine CJ.seq fun _ hK3 _ => ?_
  refine CJ.region ?_
  refine J.p (PR.move rfl) rfl ?_
  refine J.p (PR.move rfl) rfl ?_
  refine J.splitB (jd := 16) rfl (fun hg16 => ?_) (fun hg16 => ?_)
  ·
    try have hg16p := of_decide_eq_true hg16
    refine J.gy (PR.move rfl) rfl rfl rfl hg16 ?_
    refine J.gy (PR.eql rfl rfl) rfl rfl rfl hg16 ?_
    refine J.gy (PR.move rfl) rfl rfl rfl hg16 ?_
    refine J.splitB (jd := 19) rfl (fun hg19 => ?_) (fun hg19 => ?_)
    ·
      try have hg19p := of_decide_eq_true hg19
      refine J.gn rfl rfl rfl hg19 ?_
      refine J.gn rfl rfl rfl hg19 ?_
      refine J.gn rfl rfl rfl hg19 ?_
      refine J.gy (PR.pickT rfl hg19 rfl) rfl rfl rfl hg16 ?_
      refine J.p (PR.pickT rfl hg16 rfl) rfl ?_
      refine J.p (PR.assign rfl) rfl ?_
      refine J.nil ?_
      refine EJ.thenN (hK3 ?_)
      refine CJ.ret ?_
      refine EJ.ret1 rfl (Res.tmp rfl) fun w hH => ?_
      replace hH := hH.tail
      exact ⟨rb (by unfold degOk; rw [hg16, hg19]; rfl), hH⟩
    ·
      try have hg19p := of_decide_eq_false hg19
      refine J.gy (PR.move rfl) rfl rfl rfl hg19 ?_
      refine J.gy (PR.move rfl) rfl rfl rfl hg19 ?_
      refine J.gy (PR.eql rfl rfl) rfl rfl rfl hg19 ?_
      refine J.gy (PR.pickF rfl hg19 rfl) rfl rfl rfl hg16 ?_
      refine J.p (PR.pickT rfl hg16 rfl) rfl ?_
      refine J.p (PR.assign rfl) rfl ?_
      refine J.nil ?_
      refine EJ.thenN (hK3 ?_)
      refine CJ.ret ?_
      refine EJ.ret1 rfl (Res.tmp rfl) fun w hH => ?_
      replace hH := hH.tail
      exact ⟨rb (by unfold degOk; rw [hg16, hg19]; simp), hH⟩
  ·
    try have hg16p := of_decide_eq_false hg16
    refine J.gn rfl rfl rfl hg16 ?_
    refine J.gn rfl rfl rfl hg16 ?_
    refine J.gn rfl rfl rfl hg16 ?_
    refine J.gu rfl rfl rfl ?_
    refine J.gu rfl rfl rfl ?_
    refine J.gu rfl rfl rfl ?_
    refine J.gn rfl rfl rfl hg16 ?_
    refine J.p (PR.pickF rfl hg16 rfl) rfl ?_
    refine J.p (PR.assign rfl) rfl ?_
    refine J.nil ?_
    refine EJ.thenN (hK3 ?_)
    refine CJ.ret ?_
    refine EJ.ret1 rfl (Res.tmp rfl) fun w hH => ?_
    replace hH := hH.tail
    exact ⟨rb (by unfold degOk; rw [hg16]; rfl), hH⟩
end Go.Proofs.Ytpojpokldncglaa.G
