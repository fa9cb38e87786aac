/- The walks: what each Go function does, shown from its text. No condition. -/
import Derived.Test.YtbjhllmcnfncdaaDoorGAlg
import Derived.Test.YtbjhllmcnfncdaaDoorProg
import Derived.Test.YtbjhllmcnfncdaaDoorWa
set_option linter.unusedVariables false
set_option linter.unusedSimpArgs false
namespace Go.Proofs.YtbjhllmcnfncdaaDoor.G
open Go Go.RowKit
namespace Wb
theorem u2 : Tryd.prog.underlying 2 = some (TypeDesc.int .i64) := by kernel_rfl
theorem u22 : Tryd.prog.underlying 22 = some (TypeDesc.slice 2) := by kernel_rfl
theorem u5 : Tryd.prog.underlying 5 = some (TypeDesc.int .u8) := by kernel_rfl
theorem u63 : Tryd.prog.underlying 63 = some (TypeDesc.array 8 5) := by kernel_rfl
theorem u64 : Tryd.prog.underlying 64 = some (TypeDesc.array 8 5) := by kernel_rfl
theorem sz2 : Size Tryd.prog 2 1 := by unfold Size; kernel_rfl
theorem sz5 : Size Tryd.prog 5 1 := by unfold Size; kernel_rfl
theorem sz64 : Size Tryd.prog 64 8 := by unfold Size; kernel_rfl
theorem by2 : Bytes Tryd.prog 2 8 := by unfold Bytes; kernel_rfl
theorem ze2 : Zero Tryd.prog 2 [.int .i64 0] := by unfold Zero; kernel_rfl
theorem ze64 : Zero Tryd.prog 64 [.int .u8 0, .int .u8 0, .int .u8 0, .int .u8 0, .int .u8 0, .int .u8 0, .int .u8 0, .int .u8 0] := by unfold Zero; kernel_rfl
theorem pl2 : Plain Tryd.prog 2 := ⟨_, u2, rfl⟩
theorem pl5 : Plain Tryd.prog 5 := ⟨_, u5, rfl⟩
theorem ag64 : Agg Tryd.prog 64 8 := ⟨_, u64, rfl, by kernel_rfl⟩
theorem fn53 : Fn Tryd.prog 53 := ⟨_, Tryd.func53, by kernel_rfl, rfl⟩
theorem fn54 : Fn Tryd.prog 54 := ⟨_, Tryd.func54, by kernel_rfl, rfl⟩
theorem fn55 : Fn Tryd.prog 55 := ⟨_, Tryd.func55, by kernel_rfl, rfl⟩
theorem fn75 : Fn Tryd.prog 75 := ⟨_, Tryd.func75, by kernel_rfl, rfl⟩
theorem foll0 : Tryd.prog.follows .mixedOrders = true := by kernel_rfl
end Wb
open Wb

theorem list_eq_of {xs ys : List Int} (hl : (xs.length : Int) = ys.length) (h : ∀ j, j < xs.length → xs.getD j 0 = ys.getD j 0) : xs = ys := by
  apply List.ext_getElem (by omega)
  intro j h1 h2
  have := h j h1
  rwa [List.getD_eq_getElem?_getD, List.getD_eq_getElem?_getD, List.getElem?_eq_getElem h1, List.getElem?_eq_getElem h2] at this

set_option maxRecDepth 10000 in
theorem eqInt64S_c {B : World} {H0 H : HP} {L : List SA} {w : World} {qxs : Option Addr} {cxs : Nat} {xs : List Int} {qys : Option Addr} {cys : Nat} {ys : List Int}  (hxs : Ints H qxs xs) (hys : Ints H qys ys) (hn : xs.length ≤ 1048576) (hH : Hp B H0 H L w) :
    Calls Tryd.prog 10 [.slice qxs xs.length cxs, .slice qys ys.length cys].toArray w fun e w' => e = .returned (.bool (decide (xs = ys))) ∧ Hp B H0 H L w' := by
  refine CJ.enter Tryd.func10 rfl 26 rfl rfl [(0, .slice qxs xs.length cxs), (1, .slice qys ys.length cys)] rfl hH ?_
  clear hH
  refine CJ.seq fun _ hK1 _ => ?_
  refine CJ.region ?_
  refine J.p (PR.assign rfl) rfl ?_
  refine J.nil ?_
  refine EJ.thenN (hK1 ?_)
  refine CJ.seq fun _ hK2 _ => ?_
  refine CJ.seq fun _ hK3 _ => ?_
  refine CJ.region ?_
  refine J.p (PR.move rfl) rfl ?_
  refine J.p (PR.lenSlice u22 rfl rfl) rfl ?_
  refine J.p (PR.move rfl) rfl ?_
  refine J.p (PR.lenSlice u22 rfl rfl) rfl ?_
  refine J.p (PR.neq rfl rfl) rfl ?_
  refine J.nil ?_
  refine EJ.thenN (hK3 ?_)
  refine CJ.condD rfl (fun h10 => ?_) (fun h10 => ?_)
  ·
    refine CJ.seq fun _ hK4 _ => ?_
    refine CJ.region ?_
    refine J.p (PR.assign rfl) rfl ?_
    refine J.nil ?_
    refine EJ.thenN (hK4 ?_)
    refine CJ.ret ?_
    refine EJ.thenR ?_
    refine EJ.ret1 rfl (Res.tmp rfl) fun w hH => ?_
    exact ⟨rb (decide_eq_false (fun e => h10 (by rw [e]))).symm, hH⟩
  ·
    refine CJ.skip ?_
    refine EJ.thenN (hK2 ?_)
    refine CJ.seq fun _ hK5 _ => ?_
    refine CJ.seq fun _ hK6 _ => ?_
    refine CJ.region ?_
    refine J.p (PR.assign rfl) rfl ?_
    refine J.nil ?_
    refine EJ.thenN (hK6 ?_)
    refine CJ.block ?_
    refine CJ.loopU (σ := Nat) (fun (k : Nat) => [(5, .int .i64 (k : Int))]) (fun (k : Nat) => H) (fun (k : Nat) => L) (fun (k : Nat) => k ≤ xs.length ∧ ∀ j, j < k → xs.getD j 0 = ys.getD j 0) (fun (k : Nat) => xs.length - k) 0 ⟨by omega, fun j hj => by omega⟩ ⟨rfl, trivial⟩ rfl rfl ?_
    rintro k hI _ hAg0
    have hk := hI.1
    refine CJ.seq fun _ hK7 _ => ?_
    refine CJ.seq fun _ hK8 _ => ?_
    refine CJ.region ?_
    refine J.p (PR.move rfl) rfl ?_
    refine J.p (PR.move rfl) rfl ?_
    refine J.p (PR.lenSlice u22 rfl rfl) rfl ?_
    refine J.p (PR.lss rfl rfl) rfl ?_
    refine J.nil ?_
    refine EJ.thenN (hK8 ?_)
    refine CJ.condD rfl (fun hc14 => ?_) (fun hc14 => ?_)
    ·
      refine CJ.skip ?_
      refine EJ.thenN (hK7 ?_)
      refine CJ.seq fun _ hK9 _ => ?_
      refine CJ.block ?_
      refine CJ.seq fun _ hK10 _ => ?_
      refine CJ.regionD foll0 (by kernel_rfl) ?_
      refine JS.op (PR.move rfl) rfl ?_
      refine JS.op (PR.move rfl) rfl ?_
      refine JS.op (PR.idx1 u22 sz2 rfl rfl rfl (by omega) hxs.sm) rfl ?_
      refine JS.op (PR.loadH rfl (hxs _ (by omega)) pl2) rfl ?_
      refine JS.op (PR.move rfl) rfl ?_
      refine JS.op (PR.move rfl) rfl ?_
      refine JS.op (PR.idx1 u22 sz2 rfl rfl rfl (by omega) hys.sm) rfl ?_
      refine JS.op (PR.loadH rfl (hys _ (by omega)) pl2) rfl ?_
      refine JS.op (PR.neq rfl rfl) rfl ?_
      refine JS.nil ?_
      refine EJ.thenN (hK10 ?_)
      refine CJ.condD rfl (fun h25 => ?_) (fun h25 => ?_)
      ·
        refine CJ.seq fun _ hK11 _ => ?_
        refine CJ.region ?_
        refine J.p (PR.assign rfl) rfl ?_
        refine J.nil ?_
        refine EJ.thenN (hK11 ?_)
        refine CJ.ret ?_
        refine EJ.inR ?_
        refine EJ.thenR ?_
        refine EJ.thenR ?_
        refine EJ.inR ?_
        refine EJ.thenR ?_
        refine EJ.ret1 rfl (Res.tmp rfl) fun w hH => ?_
        exact ⟨rb (decide_eq_false (fun e => h25 (by rw [e]))).symm, hH⟩
      ·
        refine CJ.skip ?_
        refine EJ.inN ?_
        refine EJ.thenN (hK9 ?_)
        refine CJ.region ?_
        refine J.p (PR.move rfl) rfl ?_
        refine J.p (PR.add rfl rfl (by first | exact nw _ (by omega) | rfl)) rfl ?_
        refine J.p (PR.assign rfl) rfl ?_
        refine J.nil ?_
        refine EJ.thenN ?_
        exact hAg0 (k + 1) ⟨by omega, upto hI.2 (by omega)⟩ (by omega) 17 rfl rfl ⟨rfl, trivial⟩ rfl rfl
    ·
      refine CJ.exit ?_
      refine EJ.thenE ?_
      refine EJ.thenE ?_
      refine EJ.inE ?_
      refine EJ.thenN (hK5 ?_)
      refine CJ.seq fun _ hK12 _ => ?_
      refine CJ.region ?_
      refine J.p (PR.assign rfl) rfl ?_
      refine J.nil ?_
      refine EJ.thenN (hK12 ?_)
      refine CJ.ret ?_
      refine EJ.ret1 rfl (Res.tmp rfl) fun w hH => ?_
      exact ⟨rb (decide_eq_true (list_eq_of (by omega) (fun j hj => hI.2 j (by omega)))).symm, hH⟩
set_option maxRecDepth 10000 in
theorem toInt64S_c {B : World} {H0 H : HP} {L : List SA} {w : World} {qxs : Option Addr} {cxs : Nat} {xs : List Int}  (hxs : Ints H qxs xs) (hn : xs.length ≤ 1048576) (hH : Hp B H0 H L w) :
    Calls Tryd.prog 7 [.slice qxs xs.length cxs].toArray w fun e w' => ∃ q c, e = .returned (.slice q xs.length c) ∧ Hp B H0 H (own 2 1 q xs.length c (intsC xs) :: L) w' := by
  refine CJ.enter Tryd.func7 rfl 22 rfl rfl [(0, .slice qxs xs.length cxs)] rfl hH ?_
  clear hH
  refine CJ.seq fun _ hK1 _ => ?_
  refine CJ.region ?_
  refine J.p (PR.assign rfl) rfl ?_
  refine J.nil ?_
  refine EJ.thenN (hK1 ?_)
  refine CJ.seq fun _ hK2 _ => ?_
  refine CJ.region ?_
  refine J.p (PR.move rfl) rfl ?_
  refine J.p (PR.lenSlice u22 rfl rfl) rfl ?_
  refine J.makeI u22 ze2 sz2 by2 rfl rfl rfl rfl (by omega) rfl fun g7 => ?_
  refine J.p (PR.assign rfl) rfl ?_
  refine J.nil ?_
  refine EJ.thenN (hK2 ?_)
  refine CJ.seq fun _ hK3 _ => ?_
  refine CJ.seq fun _ hK4 _ => ?_
  refine CJ.region ?_
  refine J.p (PR.assign rfl) rfl ?_
  refine J.nil ?_
  refine EJ.thenN (hK4 ?_)
  refine CJ.block ?_
  refine CJ.loopU (σ := Nat) (fun (k : Nat) => [(4, .int .i64 (k : Int))]) (fun (k : Nat) => H) (fun (k : Nat) => obj g7 (.cells (intsC (xs.take k ++ List.replicate (xs.length - k) 0)).toArray 2 (0, 0)) :: L) (fun (k : Nat) => k ≤ xs.length) (fun (k : Nat) => xs.length - k) 0 (by omega) ⟨rfl, trivial⟩ rfl rfl ?_
  rintro k hI _ hAg0
  refine CJ.seq fun _ hK5 _ => ?_
  refine CJ.seq fun _ hK6 _ => ?_
  refine CJ.region ?_
  refine J.p (PR.move rfl) rfl ?_
  refine J.p (PR.move rfl) rfl ?_
  refine J.p (PR.lenSlice u22 rfl rfl) rfl ?_
  refine J.p (PR.lss rfl rfl) rfl ?_
  refine J.nil ?_
  refine EJ.thenN (hK6 ?_)
  refine CJ.condD rfl (fun hc11 => ?_) (fun hc11 => ?_)
  ·
    refine CJ.skip ?_
    refine EJ.thenN (hK5 ?_)
    refine CJ.seq fun _ hK7 _ => ?_
    refine CJ.block ?_
    refine CJ.region ?_
    refine J.p (PR.move rfl) rfl ?_
    refine J.p (PR.move rfl) rfl ?_
    refine J.p (PR.move rfl) rfl ?_
    refine J.p (PR.move rfl) rfl ?_
    refine J.p (PR.idx1 u22 sz2 rfl rfl rfl (by omega) hxs.sm) rfl ?_
    refine J.p (PR.loadH rfl (hxs _ (by omega)) pl2) rfl ?_
    refine J.p (PR.idxO1 u22 sz2 rfl rfl rfl (by omega)) rfl ?_
    refine J.storeI rfl rfl sz2 (by simp; omega) At.z ?_
    refine J.nil ?_
    refine EJ.inN ?_
    refine EJ.thenN (hK7 ?_)
    refine CJ.region ?_
    refine J.p (PR.move rfl) rfl ?_
    refine J.p (PR.add rfl rfl (by first | exact nw _ (by omega) | rfl)) rfl ?_
    refine J.p (PR.assign rfl) rfl ?_
    refine J.nil ?_
    refine EJ.thenN ?_
    exact hAg0 (k + 1) (by omega) (by omega) 15 rfl rfl ⟨rfl, trivial⟩ rfl (by rw [← fill_step (by omega)])
  ·
    refine CJ.exit ?_
    refine EJ.thenE ?_
    refine EJ.thenE ?_
    refine EJ.inE ?_
    refine EJ.thenN (hK3 ?_)
    refine CJ.seq fun _ hK8 _ => ?_
    refine CJ.region ?_
    refine J.p (PR.move rfl) rfl ?_
    refine J.p (PR.assign rfl) rfl ?_
    refine J.nil ?_
    refine EJ.thenN (hK8 ?_)
    refine CJ.ret ?_
    refine EJ.ret1 rfl (Res.tmp rfl) fun w hH => ?_
    obtain rfl : k = xs.length := by omega
    rw [fill_end] at hH
    exact ⟨_, _, rfl, own_full _ 1 hH (by simp) (by simp only [maxLen]; omega)⟩
set_option maxRecDepth 10000 in
theorem toMonomial_c {B : World} {H0 H : HP} {L : List SA} {w : World} {m : List Int}  (hm : Mono m) (hH : Hp B H0 H L w) :
    Calls Tryd.prog 52 [.agg (bytesC m).toArray].toArray w fun e w' => e = .returned (.agg (bytesC m).toArray) ∧ Hp B H0 H L w' := by
  refine CJ.enter Tryd.func52 rfl 15 rfl rfl [(0, .agg (bytesC m).toArray)] rfl hH ?_
  have hml := hm.len
  clear hH
  refine CJ.seq fun _ hK1 _ => ?_
  refine CJ.region ?_
  refine J.box rfl rfl rfl fun g1 => ?_
  refine J.alloc ze64 rfl fun g2 => ?_
  refine J.nil ?_
  refine EJ.thenN (hK1 ?_)
  refine CJ.seq fun _ hK2 _ => ?_
  refine CJ.region ?_
  refine J.alloc ze64 rfl fun g3 => ?_
  refine J.nil ?_
  refine EJ.thenN (hK2 ?_)
  refine CJ.seq fun _ hK3 _ => ?_
  refine CJ.seq fun _ hK4 _ => ?_
  refine CJ.region ?_
  refine J.p (PR.assign rfl) rfl ?_
  refine J.nil ?_
  refine EJ.thenN (hK4 ?_)
  refine CJ.block ?_
  refine CJ.loopU (σ := Nat) (fun (k : Nat) => [(4, .int .i64 (k : Int))]) (fun (k : Nat) => H) (fun (k : Nat) => obj g3 (.cells (bytesC (m.take k ++ List.replicate (m.length - k) 0)).toArray 64 (0, 0)) :: obj g2 (.cells (bytesC (List.replicate 8 0)).toArray 64 (0, 0)) :: obj g1 (.cells (bytesC m).toArray 63 (0, 0)) :: L) (fun (k : Nat) => k ≤ 8) (fun (k : Nat) => 8 - k) 0 (by omega) ⟨rfl, trivial⟩ rfl (by rw [hml]; rfl) ?_
  rintro k hI _ hAg0
  refine CJ.seq fun _ hK5 _ => ?_
  refine CJ.seq fun _ hK6 _ => ?_
  refine CJ.region ?_
  refine J.p (PR.move rfl) rfl ?_
  refine J.p (PR.lss rfl rfl) rfl ?_
  refine J.nil ?_
  refine EJ.thenN (hK6 ?_)
  refine CJ.condD rfl (fun hc6 => ?_) (fun hc6 => ?_)
  ·
    refine CJ.skip ?_
    refine EJ.thenN (hK5 ?_)
    refine CJ.seq fun _ hK7 _ => ?_
    refine CJ.block ?_
    refine CJ.region ?_
    refine J.p (PR.move rfl) rfl ?_
    refine J.p (PR.move rfl) rfl ?_
    refine J.p (PR.idxA1 u63 sz5 rfl rfl rfl (by omega)) rfl ?_
    refine J.p (PR.load rfl (.s (.s .z)) (bytesC_get (by omega)) pl5) rfl ?_
    refine J.p (PR.idxA1 u64 sz5 rfl rfl rfl (by omega)) rfl ?_
    refine J.storeB rfl rfl sz5 (by simp; omega) At.z ?_
    refine J.nil ?_
    refine EJ.inN ?_
    refine EJ.thenN (hK7 ?_)
    refine CJ.region ?_
    refine J.p (PR.move rfl) rfl ?_
    refine J.p (PR.add rfl rfl (by first | exact nw _ (by omega) | rfl)) rfl ?_
    refine J.p (PR.assign rfl) rfl ?_
    refine J.nil ?_
    refine EJ.thenN ?_
    exact hAg0 (k + 1) (by omega) (by omega) 11 rfl rfl ⟨rfl, trivial⟩ rfl (by rw [← fill_step (by omega)])
  ·
    refine CJ.exit ?_
    refine EJ.thenE ?_
    refine EJ.thenE ?_
    refine EJ.inE ?_
    refine EJ.thenN (hK3 ?_)
    refine CJ.seq fun _ hK8 _ => ?_
    refine CJ.region ?_
    refine J.p (PR.loadAll rfl At.z (by simpa [*] using ag64)) rfl ?_
    refine J.storeAll rfl rfl (by first | exact bytesC_one _ | exact intsC_one _ | exact Term.c_one _ | simp [Value.oneCell']) (by simpa [*] using sz64) (by simp [*]) (.s .z) ?_
    refine J.nil ?_
    refine EJ.thenN (hK8 ?_)
    refine CJ.ret ?_
    refine EJ.ret1 rfl (Res.agg rfl (.s .z) (by simpa [*] using ag64)) fun w hH => ?_
    replace hH := hH.tail
    replace hH := hH.tail
    replace hH := hH.tail
    obtain rfl : k = m.length := by omega
    exact ⟨by rw [fill_end], hH⟩

def idxOf (xs : List Int) (p : Int → Bool) : Int := if xs.any p then (xs.findIdx p : Int) else -1
theorem idxOf_hit {xs : List Int} {p : Int → Bool} {k : Nat} (hk : k < xs.length) (h : ∀ j, j < k → p (xs.getD j 0) = false) (hp : p (xs.getD k 0) = true) : idxOf xs p = k := by
  have hg : ∀ j, (hj : j < xs.length) → xs[j] = xs.getD j 0 := fun j hj => by rw [List.getD_eq_getElem?_getD, List.getElem?_eq_getElem hj]; rfl
  unfold idxOf
  have ha : xs.any p = true := List.any_eq_true.2 ⟨xs[k], List.getElem_mem hk, by rw [hg]; exact hp⟩
  rw [if_pos ha]
  have : xs.findIdx p = k := by
    rw [List.findIdx_eq hk]
    exact ⟨by rw [hg]; exact hp, fun j hj => by rw [hg]; exact h j hj⟩
  rw [this]
theorem idxOf_miss {xs : List Int} {p : Int → Bool} (h : ∀ j, j < xs.length → p (xs.getD j 0) = false) : idxOf xs p = -1 := by
  unfold idxOf
  rw [if_neg]
  intro ha
  obtain ⟨x, hx, hp⟩ := List.any_eq_true.1 ha
  obtain ⟨j, hj, rfl⟩ := List.mem_iff_getElem.1 hx
  have := h j hj
  rw [List.getD_eq_getElem?_getD, List.getElem?_eq_getElem hj] at this
  rw [show (some xs[j]).getD 0 = xs[j] from rfl, hp] at this
  cases this
theorem idxOf_ge (xs : List Int) (p : Int → Bool) : decide (0 ≤ idxOf xs p) = xs.any p := by
  unfold idxOf
  by_cases h : xs.any p = true
  · rw [if_pos h, h]; exact decide_eq_true (by omega)
  · rw [if_neg h]
    have : xs.any p = false := by simpa using h
    rw [this]
    rfl
theorem isDeg_any {ds : List Int} (h : (ds.length : Int) ≤ 8) : (!(ds.any fun x => !(decide (1 ≤ x) && decide (x ≤ 12)))) = isDeg ds := by
  unfold isDeg
  rw [decide_eq_true (by omega), Bool.true_and, List.all_eq_not_any_not]
theorem isDeg_pos {ds : List Int} (h : isDeg ds = true) : ∀ j, j < ds.length → 0 ≤ ds.getD j 0 := by
  intro j hj
  unfold isDeg at h
  rw [Bool.and_eq_true] at h
  have := List.all_eq_true.1 h.2 (ds.getD j 0) (by rw [List.getD_eq_getElem?_getD, List.getElem?_eq_getElem hj]; exact List.getElem_mem hj)
  rw [Bool.and_eq_true, decide_eq_true_eq] at this
  omega
theorem idxOf_bd (xs : List Int) (p : Int → Bool) : -1 ≤ idxOf xs p ∧ idxOf xs p < xs.length + 1 := by
  unfold idxOf
  have := List.findIdx_le_length (xs := xs) (p := p)
  split <;> omega

set_option maxRecDepth 10000 in
theorem IndexFuncI_c {B : World} {H0 H : HP} {L : List SA} {w : World} {qxs : Option Addr} {cxs : Nat} {xs : List Int} {gp : Nat} {capp : Array Value} {p : Int → Bool}  (hxs : Ints H qxs xs) (hgp : Fn Tryd.prog gp) (hp : ∀ (x : Int) (w : World), Hp B H0 H L w → Calls Tryd.prog gp (#[] ++ [.int .i64 x].toArray ++ capp) w fun e w' => e = .returned (.bool (p x)) ∧ Hp B H0 H L w') (hn : xs.length ≤ 1048576) (hH : Hp B H0 H L w) :
    Calls Tryd.prog 75 [.slice qxs xs.length cxs, .func (.func gp) #[] capp].toArray w fun e w' => e = .returned (.int .i64 (idxOf xs p)) ∧ Hp B H0 H L w' := by
  refine CJ.enter Tryd.func75 rfl 19 rfl rfl [(0, .slice qxs xs.length cxs), (1, .func (.func gp) #[] capp)] rfl hH ?_
  clear hH
  refine CJ.seq fun _ hK1 _ => ?_
  refine CJ.region ?_
  refine J.p (PR.assign rfl) rfl ?_
  refine J.nil ?_
  refine EJ.thenN (hK1 ?_)
  refine CJ.seq fun _ hK2 _ => ?_
  refine CJ.seq fun _ hK3 _ => ?_
  refine CJ.region ?_
  refine J.p (PR.move rfl) rfl ?_
  refine J.p (PR.lenSlice u22 rfl rfl) rfl ?_
  refine J.p (PR.move rfl) rfl ?_
  refine J.nil ?_
  refine EJ.thenN (hK3 ?_)
  refine CJ.block ?_
  refine CJ.loopU (σ := Nat) (fun (k : Nat) => [(8, .int .i64 (k : Int))]) (fun (k : Nat) => H) (fun (k : Nat) => L) (fun (k : Nat) => k ≤ xs.length ∧ ∀ j, j < k → p (xs.getD j 0) = false) (fun (k : Nat) => xs.length - k) 0 ⟨by omega, fun j hj => by omega⟩ ⟨rfl, trivial⟩ rfl rfl ?_
  rintro k hI _ hAg0
  have hk := hI.1
  refine CJ.seq fun _ hK4 _ => ?_
  refine CJ.region ?_
  refine J.p (PR.lss rfl rfl) rfl ?_
  refine J.nil ?_
  refine EJ.thenN (hK4 ?_)
  refine CJ.seq fun _ hK5 _ => ?_
  refine CJ.condD rfl (fun hc9 => ?_) (fun hc9 => ?_)
  ·
    refine CJ.skip ?_
    refine EJ.thenN (hK5 ?_)
    refine CJ.seq fun _ hK6 _ => ?_
    refine CJ.block ?_
    refine CJ.seq fun _ hK7 _ => ?_
    refine CJ.region ?_
    refine J.p (PR.move rfl) rfl ?_
    refine J.p (PR.assign rfl) rfl ?_
    refine J.nil ?_
    refine EJ.thenN (hK7 ?_)
    refine CJ.seq fun _ hK8 _ => ?_
    refine CJ.region ?_
    refine J.p (PR.move rfl) rfl ?_
    refine J.p (PR.move rfl) rfl ?_
    refine J.p (PR.move rfl) rfl ?_
    refine J.p (PR.idx1 u22 sz2 rfl rfl rfl (by omega) hxs.sm) rfl ?_
    refine J.p (PR.loadH rfl (hxs _ (by omega)) pl2) rfl ?_
    refine J.callV hgp rfl rfl rfl fun w hH => (hp _ w hH).mono ?_
    rintro _ w ⟨rfl, hH⟩
    refine ⟨_, rfl, fun a hF => J.of hF hH ?_⟩
    refine J.nil ?_
    refine EJ.thenN (hK8 ?_)
    refine CJ.cond rfl (fun h16 => ?_) (fun h16 => ?_)
    ·
      refine CJ.seq fun _ hK9 _ => ?_
      refine CJ.region ?_
      refine J.p (PR.move rfl) rfl ?_
      refine J.p (PR.assign rfl) rfl ?_
      refine J.nil ?_
      refine EJ.thenN (hK9 ?_)
      refine CJ.ret ?_
      refine EJ.inR ?_
      refine EJ.thenR ?_
      refine EJ.thenR ?_
      refine EJ.inR ?_
      refine EJ.thenR ?_
      refine EJ.ret1 rfl (Res.tmp rfl) fun w hH => ?_
      exact ⟨ri (idxOf_hit (by omega) hI.2 h16).symm, hH⟩
    ·
      refine CJ.skip ?_
      refine EJ.inN ?_
      refine EJ.thenN (hK6 ?_)
      refine CJ.region ?_
      refine J.p (PR.add rfl rfl (by first | exact nw _ (by omega) | rfl)) rfl ?_
      refine J.p (PR.move rfl) rfl ?_
      refine J.nil ?_
      refine EJ.thenN ?_
      exact hAg0 (k + 1) ⟨by omega, upto hI.2 h16⟩ (by omega) 12 rfl rfl ⟨rfl, trivial⟩ rfl rfl
  ·
    refine CJ.exit ?_
    refine EJ.thenE ?_
    refine EJ.thenE ?_
    refine EJ.inE ?_
    refine EJ.thenN (hK2 ?_)
    refine CJ.seq fun _ hK10 _ => ?_
    refine CJ.region ?_
    refine J.p (PR.assign rfl) rfl ?_
    refine J.nil ?_
    refine EJ.thenN (hK10 ?_)
    refine CJ.ret ?_
    refine EJ.ret1 rfl (Res.tmp rfl) fun w hH => ?_
    exact ⟨ri (idxOf_miss (fun j hj => hI.2 j (by omega))).symm, hH⟩
set_option maxRecDepth 10000 in
theorem ContainsFuncI_c {B : World} {H0 H : HP} {L : List SA} {w : World} {qxs : Option Addr} {cxs : Nat} {xs : List Int} {gp : Nat} {capp : Array Value} {p : Int → Bool}  (hxs : Ints H qxs xs) (hgp : Fn Tryd.prog gp) (hp : ∀ (x : Int) (w : World), Hp B H0 H L w → Calls Tryd.prog gp (#[] ++ [.int .i64 x].toArray ++ capp) w fun e w' => e = .returned (.bool (p x)) ∧ Hp B H0 H L w') (hn : xs.length ≤ 1048576) (hH : Hp B H0 H L w) :
    Calls Tryd.prog 53 [.slice qxs xs.length cxs, .func (.func gp) #[] capp].toArray w fun e w' => e = .returned (.bool (xs.any p)) ∧ Hp B H0 H L w' := by
  refine CJ.enter Tryd.func53 rfl 9 rfl rfl [(0, .slice qxs xs.length cxs), (1, .func (.func gp) #[] capp)] rfl hH ?_
  clear hH
  refine CJ.seq fun _ hK1 _ => ?_
  refine CJ.region ?_
  refine J.p (PR.assign rfl) rfl ?_
  refine J.nil ?_
  refine EJ.thenN (hK1 ?_)
  refine CJ.seq fun _ hK2 _ => ?_
  refine CJ.region ?_
  refine J.p (PR.move rfl) rfl ?_
  refine J.p (PR.move rfl) rfl ?_
  refine J.call fn75 rfl rfl fun w hH => (IndexFuncI_c hxs hgp hp (by omega) hH).mono ?_
  rintro _ w ⟨rfl, hH⟩
  refine ⟨_, rfl, fun a hF => J.of hF hH ?_⟩
  refine J.p (PR.geq rfl rfl) rfl ?_
  refine J.p (PR.assign rfl) rfl ?_
  refine J.nil ?_
  refine EJ.thenN (hK2 ?_)
  refine CJ.ret ?_
  refine EJ.ret1 rfl (Res.tmp rfl) fun w hH => ?_
  exact ⟨rb (idxOf_ge xs p), hH⟩
set_option maxRecDepth 10000 in
theorem AreDegrees1_c {B : World} {H0 H : HP} {L : List SA} {w : World} {x : Int}   (hH : Hp B H0 H L w) :
    Calls Tryd.prog 54 [.int .i64 x].toArray w fun e w' => e = .returned (.bool (!(decide (1 ≤ x) && decide (x ≤ 12)))) ∧ Hp B H0 H L w' := by
  refine CJ.enter Tryd.func54 rfl 6 rfl rfl [(0, .int .i64 x)] rfl hH ?_
  clear hH
  refine CJ.seq fun _ hK1 _ => ?_
  refine CJ.region ?_
  refine J.p (PR.assign rfl) rfl ?_
  refine J.nil ?_
  refine EJ.thenN (hK1 ?_)
  refine CJ.seq fun _ hK2 _ => ?_
  refine CJ.region ?_
  refine J.p (PR.move rfl) rfl ?_
  refine J.call fn55 rfl rfl fun w hH => (within_c  hH).mono ?_
  rintro _ w ⟨rfl, hH⟩
  refine ⟨_, rfl, fun a hF => J.of hF hH ?_⟩
  refine J.p (PR.not rfl) rfl ?_
  refine J.p (PR.assign rfl) rfl ?_
  refine J.nil ?_
  refine EJ.thenN (hK2 ?_)
  refine CJ.ret ?_
  refine EJ.ret1 rfl (Res.tmp rfl) fun w hH => ?_
  exact ⟨rfl, hH⟩
set_option maxRecDepth 10000 in
theorem AreDegrees_c {B : World} {H0 H : HP} {L : List SA} {w : World} {qds : Option Addr} {cds : Nat} {ds : List Int}  (hds : Ints H qds ds) (hn : ds.length ≤ 1048576) (hH : Hp B H0 H L w) :
    Calls Tryd.prog 37 [.slice qds ds.length cds].toArray w fun e w' => e = .returned (.bool (isDeg ds)) ∧ Hp B H0 H L w' := by
  refine CJ.enter Tryd.func37 rfl 11 rfl rfl [(0, .slice qds ds.length cds)] rfl hH ?_
  clear hH
  refine CJ.seq fun _ hK1 _ => ?_
  refine CJ.region ?_
  refine J.p (PR.assign rfl) rfl ?_
  refine J.nil ?_
  refine EJ.thenN (hK1 ?_)
  refine CJ.seq fun _ hK2 _ => ?_
  refine CJ.region ?_
  refine J.p (PR.move rfl) rfl ?_
  refine J.p (PR.lenSlice u22 rfl rfl) rfl ?_
  refine J.p (PR.leq rfl rfl) rfl ?_
  refine J.p (PR.move rfl) rfl ?_
  refine J.splitB (jd := 6) rfl (fun hg6 => ?_) (fun hg6 => ?_)
  ·
    try have hg6p := of_decide_eq_true hg6
    refine J.gy (PR.move rfl) rfl rfl rfl hg6 ?_
    refine J.gcall fn53 rfl rfl hg6 rfl rfl fun w hH => (ContainsFuncI_c hds fn54 (fun x w hH => by simpa only [Array.append_empty, Array.empty_append] using AreDegrees1_c hH) (by omega) hH).mono ?_
    rintro _ w ⟨rfl, hH⟩
    refine ⟨_, rfl, fun a hF => J.of hF hH ?_⟩
    refine J.gy (PR.not rfl) rfl rfl rfl hg6 ?_
    refine J.p (PR.pickT rfl hg6 rfl) rfl ?_
    refine J.p (PR.assign rfl) rfl ?_
    refine J.nil ?_
    refine EJ.thenN (hK2 ?_)
    refine CJ.ret ?_
    refine EJ.ret1 rfl (Res.tmp rfl) fun w hH => ?_
    exact ⟨rb (isDeg_any hg6p), hH⟩
  ·
    try have hg6p := of_decide_eq_false hg6
    refine J.gn rfl rfl rfl hg6 ?_
    refine J.gn rfl rfl rfl hg6 ?_
    refine J.gn rfl rfl rfl hg6 ?_
    refine J.p (PR.pickF rfl hg6 rfl) rfl ?_
    refine J.p (PR.assign rfl) rfl ?_
    refine J.nil ?_
    refine EJ.thenN (hK2 ?_)
    refine CJ.ret ?_
    refine EJ.ret1 rfl (Res.tmp rfl) fun w hH => ?_
    exact ⟨rb (by unfold isDeg; rw [decide_eq_false (by omega)]; rfl), hH⟩
end Go.Proofs.YtbjhllmcnfncdaaDoor.G
