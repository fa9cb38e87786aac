/- The walks: what each Go function does, shown from its text. No condition. -/
import Derived.Test.YtodmnjbchegnaaaGAlg
import Derived.Test.YtodmnjbchegnaaaProg
import Derived.Test.YtodmnjbchegnaaaWa
import Derived.Test.YtodmnjbchegnaaaWb
import Derived.Test.YtodmnjbchegnaaaWc
import Derived.Test.YtodmnjbchegnaaaWd
import Derived.Test.YtodmnjbchegnaaaWe
import Derived.Test.YtodmnjbchegnaaaWf
import Derived.Test.YtodmnjbchegnaaaWg
set_option linter.unusedVariables false
set_option linter.unusedSimpArgs false
namespace Go.Proofs.Ytodmnjbchegnaaa.G
open Go Go.RowKit
namespace Wh
theorem u2 : Try.prog.underlying 2 = some (TypeDesc.int .i64) := by kernel_rfl
theorem u26 : Try.prog.underlying 26 = some (TypeDesc.slice 2) := by kernel_rfl
theorem sz2 : Size Try.prog 2 1 := by unfold Size; kernel_rfl
theorem by2 : Bytes Try.prog 2 8 := by unfold Bytes; kernel_rfl
theorem ze2 : Zero Try.prog 2 [.int .i64 0] := by unfold Zero; kernel_rfl
theorem pl2 : Plain Try.prog 2 := ⟨_, u2, rfl⟩
theorem fn19 : Fn Try.prog 19 := ⟨_, Try.func19, by kernel_rfl, rfl⟩
theorem fn50 : Fn Try.prog 50 := ⟨_, Try.func50, by kernel_rfl, rfl⟩
theorem fn54 : Fn Try.prog 54 := ⟨_, Try.func54, by kernel_rfl, rfl⟩
theorem fn57 : Fn Try.prog 57 := ⟨_, Try.func57, by kernel_rfl, rfl⟩
theorem fn63 : Fn Try.prog 63 := ⟨_, Try.func63, by kernel_rfl, rfl⟩
theorem fn64 : Fn Try.prog 64 := ⟨_, Try.func64, by kernel_rfl, rfl⟩
theorem fn65 : Fn Try.prog 65 := ⟨_, Try.func65, by kernel_rfl, rfl⟩
theorem fn66 : Fn Try.prog 66 := ⟨_, Try.func66, by kernel_rfl, rfl⟩
theorem fn67 : Fn Try.prog 67 := ⟨_, Try.func67, by kernel_rfl, rfl⟩
theorem foll0 : Try.prog.follows .mixedOrders = true := by kernel_rfl
end Wh
open Wh

def firstOf (xs : List Int) : Int := (xs.find? (fun x => decide (x ≠ 0))).getD 0
theorem firstOf_hit {xs : List Int} {k : Nat} (hk : k < xs.length) (h : ∀ j, j < k → xs.getD j 0 = 0) (hn : xs.getD k 0 ≠ 0) : firstOf xs = xs.getD k 0 := by
  have hg : ∀ j, (hj : j < xs.length) → xs[j] = xs.getD j 0 := fun j hj => by rw [List.getD_eq_getElem?_getD, List.getElem?_eq_getElem hj]; rfl
  unfold firstOf
  have : xs.find? (fun x => decide (x ≠ 0)) = some xs[k] := by
    rw [List.find?_eq_some_iff_getElem]
    exact ⟨by rw [hg]; exact decide_eq_true hn, k, hk, rfl, fun j hj => by rw [hg, h j hj]; rfl⟩
  rw [this, hg]
  rfl
theorem firstOf_miss {xs : List Int} (h : ∀ j, j < xs.length → xs.getD j 0 = 0) : firstOf xs = 0 := by
  unfold firstOf
  have : xs.find? (fun x => decide (x ≠ 0)) = none := by
    rw [List.find?_eq_none]
    intro x hx
    obtain ⟨j, hj, rfl⟩ := List.mem_iff_getElem.1 hx
    have := h j hj
    rw [List.getD_eq_getElem?_getD, List.getElem?_eq_getElem hj] at this
    simpa using this
  rw [this]
  rfl
theorem firstOf_two (a b : Int) : firstOf [a, b] = if a = 0 then b else a := by
  unfold firstOf
  by_cases h : a = 0
  · by_cases h2 : b = 0 <;> simp [h, h2]
  · simp [h]
theorem firstOf_three (a b c : Int) : firstOf [a, b, c] = if a = 0 then (if b = 0 then c else b) else a := by
  unfold firstOf
  by_cases h : a = 0
  · by_cases h2 : b = 0
    · by_cases h3 : c = 0 <;> simp [h, h2, h3]
    · simp [h, h2]
  · simp [h]

set_option maxRecDepth 10000 in
theorem when_c {B : World} {H0 H : HP} {L : List SA} {w : World} {b : Bool} {x : Int}  (hH : Hp B H0 H L w) :
    Calls Try.prog 65 [.bool b, .int .i64 x].toArray w fun e w' => e = .returned (.int .i64 (if b then x else 0)) ∧ Hp B H0 H L w' := by
  refine CJ.enter Try.func65 rfl 7 rfl rfl [(0, .bool b), (1, .int .i64 x)] rfl hH ?_
  clear hH
  refine CJ.seq fun _ hK1 _ => ?_
  refine CJ.region ?_
  refine J.p (PR.assign rfl) rfl ?_
  refine J.nil ?_
  refine EJ.thenN (hK1 ?_)
  refine CJ.seq fun _ hK2 _ => ?_
  refine CJ.seq fun _ hK3 _ => ?_
  refine CJ.region ?_
  refine J.p (PR.move rfl) rfl ?_
  refine J.nil ?_
  refine EJ.thenN (hK3 ?_)
  refine CJ.cond rfl (fun h5 => ?_) (fun h5 => ?_)
  ·
    refine CJ.seq fun _ hK4 _ => ?_
    refine CJ.region ?_
    refine J.p (PR.move rfl) rfl ?_
    refine J.p (PR.assign rfl) rfl ?_
    refine J.nil ?_
    refine EJ.thenN (hK4 ?_)
    refine CJ.ret ?_
    refine EJ.thenR ?_
    refine EJ.ret1 rfl (Res.tmp rfl) fun w hH => ?_
    exact ⟨by rw [if_pos h5], hH⟩
  ·
    refine CJ.skip ?_
    refine EJ.thenN (hK2 ?_)
    refine CJ.seq fun _ hK5 _ => ?_
    refine CJ.region ?_
    refine J.p (PR.assign rfl) rfl ?_
    refine J.nil ?_
    refine EJ.thenN (hK5 ?_)
    refine CJ.ret ?_
    refine EJ.ret1 rfl (Res.tmp rfl) fun w hH => ?_
    exact ⟨by rw [if_neg (by rw [h5]; simp)], hH⟩
set_option maxRecDepth 10000 in
theorem first_c {B : World} {H0 H : HP} {L : List SA} {w : World} {qxs : Option Addr} {cxs : Nat} {xs : List Int} (hxs : Ints H qxs xs) (hn : xs.length ≤ 1000) (hH : Hp B H0 H L w) :
    Calls Try.prog 64 [.slice qxs xs.length cxs].toArray w fun e w' => e = .returned (.int .i64 (firstOf xs)) ∧ Hp B H0 H L w' := by
  refine CJ.enter Try.func64 rfl 15 rfl rfl [(0, .slice qxs xs.length cxs)] rfl hH ?_
  clear hH
  refine CJ.seq fun _ hK1 _ => ?_
  refine CJ.region ?_
  refine J.p (PR.assign rfl) rfl ?_
  refine J.nil ?_
  refine EJ.thenN (hK1 ?_)
  refine CJ.seq fun _ hK2 _ => ?_
  refine CJ.seq fun _ hK3 _ => ?_
  refine CJ.region ?_
  refine J.p (PR.move rfl) rfl ?_
  refine J.p (PR.lenSlice u26 rfl rfl) rfl ?_
  refine J.p (PR.move rfl) rfl ?_
  refine J.nil ?_
  refine EJ.thenN (hK3 ?_)
  refine CJ.block ?_
  refine CJ.loopU (σ := Nat) (fun (k : Nat) => [(7, .int .i64 (k : Int))]) (fun (k : Nat) => H) (fun (k : Nat) => L) (fun (k : Nat) => k ≤ xs.length ∧ ∀ j, j < k → xs.getD j 0 = 0) (fun (k : Nat) => xs.length - k) 0 ⟨by omega, fun j hj => by omega⟩ ⟨rfl, trivial⟩ rfl rfl ?_
  rintro k hI _ hAg0
  have hk := hI.1
  refine CJ.seq fun _ hK4 _ => ?_
  refine CJ.region ?_
  refine J.p (PR.lss rfl rfl) rfl ?_
  refine J.nil ?_
  refine EJ.thenN (hK4 ?_)
  refine CJ.seq fun _ hK5 _ => ?_
  refine CJ.condD rfl (fun hc8 => ?_) (fun hc8 => ?_)
  ·
    refine CJ.skip ?_
    refine EJ.thenN (hK5 ?_)
    refine CJ.seq fun _ hK6 _ => ?_
    refine CJ.block ?_
    refine CJ.seq fun _ hK7 _ => ?_
    refine CJ.region ?_
    refine J.p (PR.idx1 u26 sz2 rfl rfl rfl (by omega) hxs.sm) rfl ?_
    refine J.p (PR.loadH rfl (hxs _ (by omega)) pl2) rfl ?_
    refine J.p (PR.assign rfl) rfl ?_
    refine J.nil ?_
    refine EJ.thenN (hK7 ?_)
    refine CJ.seq fun _ hK8 _ => ?_
    refine CJ.region ?_
    refine J.p (PR.move rfl) rfl ?_
    refine J.p (PR.neq rfl rfl) rfl ?_
    refine J.nil ?_
    refine EJ.thenN (hK8 ?_)
    refine CJ.condD rfl (fun hc12 => ?_) (fun hc12 => ?_)
    ·
      refine CJ.seq fun _ hK9 _ => ?_
      refine CJ.region ?_
      refine J.p (PR.move rfl) rfl ?_
      refine J.p (PR.assign rfl) rfl ?_
      refine J.nil ?_
      refine EJ.thenN (hK9 ?_)
      refine CJ.ret ?_
      refine EJ.inR ?_
      refine EJ.thenR ?_
      refine EJ.thenR ?_
      refine EJ.inR ?_
      refine EJ.thenR ?_
      refine EJ.ret1 rfl (Res.tmp rfl) fun w hH => ?_
      exact ⟨ri (firstOf_hit (by omega) hI.2 hc12).symm, hH⟩
    ·
      refine CJ.skip ?_
      refine EJ.inN ?_
      refine EJ.thenN (hK6 ?_)
      refine CJ.region ?_
      refine J.p (PR.add rfl rfl (by first | exact nw _ (by omega) | rfl)) rfl ?_
      refine J.p (PR.move rfl) rfl ?_
      refine J.nil ?_
      refine EJ.thenN ?_
      exact hAg0 (k + 1) ⟨by omega, upto hI.2 (Decidable.not_not.1 hc12)⟩ (by omega) 9 rfl rfl ⟨rfl, trivial⟩ rfl rfl
  ·
    refine CJ.exit ?_
    refine EJ.thenE ?_
    refine EJ.thenE ?_
    refine EJ.inE ?_
    refine EJ.thenN (hK2 ?_)
    refine CJ.seq fun _ hK10 _ => ?_
    refine CJ.region ?_
    refine J.p (PR.assign rfl) rfl ?_
    refine J.nil ?_
    refine EJ.thenN (hK10 ?_)
    refine CJ.ret ?_
    refine EJ.ret1 rfl (Res.tmp rfl) fun w hH => ?_
    exact ⟨ri (firstOf_miss (fun j hj => hI.2 j (by omega))).symm, hH⟩
set_option maxRecDepth 10000 in
theorem isLong_c {B : World} {H0 H : HP} {L : List SA} {w : World} {x : Int}  (hH : Hp B H0 H L w) :
    Calls Try.prog 66 [.int .i64 x].toArray w fun e w' => e = .returned (.bool (decide (0 ≤ x) && decide (x ≤ 40))) ∧ Hp B H0 H L w' := by
  refine CJ.enter Try.func66 rfl 5 rfl rfl [(0, .int .i64 x)] rfl hH ?_
  clear hH
  refine CJ.seq fun _ hK1 _ => ?_
  refine CJ.region ?_
  refine J.p (PR.assign rfl) rfl ?_
  refine J.nil ?_
  refine EJ.thenN (hK1 ?_)
  refine CJ.seq fun _ hK2 _ => ?_
  refine CJ.region ?_
  refine J.p (PR.move rfl) rfl ?_
  refine J.call fn57 rfl rfl fun w hH => (within_c  hH).mono ?_
  rintro _ w ⟨rfl, hH⟩
  refine ⟨_, rfl, fun a hF => J.of hF hH ?_⟩
  refine J.p (PR.assign rfl) rfl ?_
  refine J.nil ?_
  refine EJ.thenN (hK2 ?_)
  refine CJ.ret ?_
  refine EJ.ret1 rfl (Res.tmp rfl) fun w hH => ?_
  exact ⟨rfl, hH⟩

def upd (out : List Int) (k n : Nat) : List Int := out.set k (out.getD k 0 + out.getD (k - n) 0)
def passE (n : Nat) : Nat → List Int → List Int
  | 0, out => out
  | c + 1, out => upd (passE n c out) (n + c) n
def passO (n m : Nat) : Nat → List Int → List Int
  | 0, out => out
  | c + 1, out => upd (passO n m c out) (m - c) n
def pass (m : Nat) (d : Int) (out : List Int) : List Int := if d.tmod 2 = 1 then passO d.toNat m (m + 1 - d.toNat) out else passE d.toNat (m + 1 - d.toNat) out
def serK (ds : List Int) (m : Nat) : Nat → List Int
  | 0 => (List.replicate (m + 1) 0).set 0 1
  | i + 1 => pass m (ds.getD i 0) (serK ds m i)
def series (ds : List Int) (m : Nat) : List Int := serK ds m ds.length
@[simp] theorem upd_length (out : List Int) (k n : Nat) : (upd out k n).length = out.length := by simp [upd]
@[simp] theorem passE_length (n c : Nat) (out : List Int) : (passE n c out).length = out.length := by induction c with | zero => rfl | succ c ih => simp [passE, ih]
@[simp] theorem passO_length (n m c : Nat) (out : List Int) : (passO n m c out).length = out.length := by induction c with | zero => rfl | succ c ih => simp [passO, ih]
@[simp] theorem pass_length (m : Nat) (d : Int) (out : List Int) : (pass m d out).length = out.length := by unfold pass; split <;> simp
@[simp] theorem serK_length (ds : List Int) (m i : Nat) : (serK ds m i).length = m + 1 := by induction i with | zero => simp [serK] | succ i ih => simp [serK, ih]
@[simp] theorem series_length (ds : List Int) (m : Nat) : (series ds m).length = m + 1 := by simp [series]
theorem getD_set_list (out : List Int) (k j : Nat) (v : Int) : (out.set k v).getD j 0 = if k = j ∧ k < out.length then v else out.getD j 0 := by
  rw [List.getD_eq_getElem?_getD, List.getD_eq_getElem?_getD, List.getElem?_set]
  by_cases h : k = j
  · subst h
    by_cases h2 : k < out.length
    · simp [h2]
    · simp [h2]
  · simp [h]
def In (X : Int) (a : List Int) : Prop := ∀ j, 0 ≤ a.getD j 0 ∧ a.getD j 0 ≤ X
theorem upd_in {a : List Int} {k n : Nat} {X M : Int} (h : In X a) (hk : a.getD k 0 ≤ M) (hM : 0 ≤ M) : In (X + M) (upd a k n) := by
  intro j
  unfold upd
  rw [getD_set_list]
  have h1 := h j
  have h2 := h k
  have h3 := h (k - n)
  split <;> omega
theorem upd_other {a : List Int} {k n j : Nat} (h : k ≠ j) : (upd a k n).getD j 0 = a.getD j 0 := by
  unfold upd
  rw [getD_set_list, if_neg (fun e => h e.1)]
theorem cmul_succ (c : Nat) (M : Int) : ((c + 1 : Nat) : Int) * M = c * M + M := by rw [Int.natCast_add, Int.add_mul]; simp
theorem passE_in {n : Nat} {out : List Int} {M : Int} (h : In M out) (hM : 0 ≤ M) : ∀ c, In (((c + 1 : Nat) : Int) * M) (passE n c out) ∧ ∀ j, n + c ≤ j → (passE n c out).getD j 0 ≤ M
  | 0 => ⟨by simpa [passE] using h, fun j _ => (h j).2⟩
  | c + 1 => by
    obtain ⟨h1, h2⟩ := passE_in h hM c
    refine ⟨?_, fun j hj => ?_⟩
    · rw [cmul_succ (c + 1)]
      exact upd_in h1 (h2 _ (Nat.le_refl _)) hM
    · rw [passE, upd_other (by omega)]
      exact h2 j (by omega)
theorem passO_in {n m : Nat} {out : List Int} {M : Int} (h : In M out) (hM : 0 ≤ M) : ∀ c, c ≤ m + 1 → In (((c + 1 : Nat) : Int) * M) (passO n m c out) ∧ ∀ j, j + c ≤ m → (passO n m c out).getD j 0 ≤ M
  | 0, _ => ⟨by simpa [passO] using h, fun j _ => (h j).2⟩
  | c + 1, hc => by
    obtain ⟨h1, h2⟩ := passO_in (n := n) (m := m) h hM c (by omega)
    refine ⟨?_, fun j hj => ?_⟩
    · rw [cmul_succ (c + 1)]
      exact upd_in h1 (h2 _ (by omega)) hM
    · rw [passO, upd_other (by omega)]
      exact h2 j (by omega)
theorem In.le {a : List Int} {X Y : Int} (h : In X a) (hXY : X ≤ Y) : In Y a := fun j => ⟨(h j).1, Int.le_trans (h j).2 hXY⟩
def cap : Nat → Int
  | 0 => 1
  | i + 1 => 41 * cap i
theorem cap_pos : ∀ i, 1 ≤ cap i
  | 0 => by simp [cap]
  | i + 1 => by have := cap_pos i; simp only [cap]; omega
theorem cap_le : ∀ i, i ≤ 8 → cap i ≤ 7984925229121 := by
  intro i hi
  have : i = 0 ∨ i = 1 ∨ i = 2 ∨ i = 3 ∨ i = 4 ∨ i = 5 ∨ i = 6 ∨ i = 7 ∨ i = 8 := by omega
  rcases this with rfl | rfl | rfl | rfl | rfl | rfl | rfl | rfl | rfl <;> decide
theorem pass_in {m : Nat} {d : Int} {out : List Int} {M : Int} (h : In M out) (hM : 0 ≤ M) (hm : m ≤ 40) (hd : 1 ≤ d) : In (41 * M) (pass m d out) := by
  have hb : ∀ c : Nat, c ≤ 40 → ((c + 1 : Nat) : Int) * M ≤ 41 * M := fun c hc => Int.mul_le_mul_of_nonneg_right (by omega) hM
  unfold pass
  split
  · exact (passO_in h hM _ (by omega)).1.le (hb _ (by omega))
  · exact (passE_in h hM _).1.le (hb _ (by omega))
theorem serK_in {ds : List Int} {m : Nat} (hm : m ≤ 40) (hd : ∀ j, j < ds.length → 1 ≤ ds.getD j 0) : ∀ i, i ≤ ds.length → In (cap i) (serK ds m i)
  | 0, _ => fun j => by
    simp only [serK]
    rw [getD_set_list]
    simp only [cap]
    split
    · omega
    · rw [List.getD_eq_getElem?_getD, List.getElem?_replicate]
      split <;> simp
  | i + 1, hi => pass_in (serK_in hm hd i (by omega)) (by have := cap_pos i; omega) hm (hd i (by omega))
theorem serE_bd {ds : List Int} {m i c : Nat} (hm : m ≤ 40) (hn : ds.length ≤ 8) (hd : ∀ j, j < ds.length → 1 ≤ ds.getD j 0) (hi : i < ds.length) (hc : c ≤ 40) : In 7984925229121 (passE (ds.getD i 0).toNat c (serK ds m i)) := by
  have h1 := cap_le (i + 1) (by omega)
  have h2 := cap_pos i
  have := (passE_in (n := (ds.getD i 0).toNat) (serK_in hm hd i (by omega)) (by omega) c).1.le (Int.mul_le_mul_of_nonneg_right (show ((c + 1 : Nat) : Int) ≤ 41 by omega) (show 0 ≤ cap i by omega))
  simp only [cap] at h1
  exact this.le (by omega)
theorem serO_bd {ds : List Int} {m i c : Nat} (hm : m ≤ 40) (hn : ds.length ≤ 8) (hd : ∀ j, j < ds.length → 1 ≤ ds.getD j 0) (hi : i < ds.length) (hc : c ≤ 40) (hcm : c ≤ m + 1) : In 7984925229121 (passO (ds.getD i 0).toNat m c (serK ds m i)) := by
  have h1 := cap_le (i + 1) (by omega)
  have h2 := cap_pos i
  have := (passO_in (n := (ds.getD i 0).toNat) (m := m) (serK_in hm hd i (by omega)) (by omega) c hcm).1.le (Int.mul_le_mul_of_nonneg_right (show ((c + 1 : Nat) : Int) ≤ 41 by omega) (show 0 ≤ cap i by omega))
  simp only [cap] at h1
  exact this.le (by omega)
theorem pass_even {m : Nat} {d : Int} {out : List Int} (h : ¬ d.tmod 2 = 1) : pass m d out = passE d.toNat (m + 1 - d.toNat) out := if_neg h
theorem pass_odd {m : Nat} {d : Int} {out : List Int} (h : d.tmod 2 = 1) : pass m d out = passO d.toNat m (m + 1 - d.toNat) out := if_pos h
theorem tmod_two {d : Int} (h : 0 ≤ d) : d.tmod 2 = 0 ∨ d.tmod 2 = 1 := by rw [Int.tmod_eq_emod_of_nonneg h]; omega
theorem isDeg_one {ds : List Int} (h : isDeg ds = true) : ∀ j, j < ds.length → 1 ≤ ds.getD j 0 ∧ ds.getD j 0 ≤ 12 := by
  intro j hj
  unfold isDeg at h
  rw [Bool.and_eq_true] at h
  have := List.all_eq_true.1 h.2 (ds.getD j 0) (by rw [List.getD_eq_getElem?_getD, List.getElem?_eq_getElem hj]; exact List.getElem_mem hj)
  rwa [Bool.and_eq_true, decide_eq_true_eq, decide_eq_true_eq] at this
theorem mk_series (m : Nat) : ∀ x, (List.replicate (m + 1) (0 : Int)).set 0 x = (List.replicate (m + 1) (0 : Int)).set 0 x := fun _ => rfl

set_option maxHeartbeats 2000000 in
set_option maxRecDepth 10000 in
theorem series_c {B : World} {H0 H : HP} {L : List SA} {w : World} {qds : Option Addr} {cds : Nat} {ds : List Int} {m : Nat} (hds : Ints H qds ds) (hn : ds.length ≤ 8) (hd : ∀ j, j < ds.length → 1 ≤ ds.getD j 0 ∧ ds.getD j 0 ≤ 12) (hm : m ≤ 40) (hH : Hp B H0 H L w) :
    Calls Try.prog 67 [.slice qds ds.length cds, .int .i64 (m : Int)].toArray w fun e w' => ∃ q c, e = .returned (.slice q (series ds m).length c) ∧ Hp B H0 H (own 2 1 q (series ds m).length c (intsC (series ds m)) :: L) w' := by
  refine CJ.enter Try.func67 rfl 62 rfl rfl [(0, .slice qds ds.length cds), (1, .int .i64 (m : Int))] rfl hH ?_
  clear hH
  refine CJ.seq fun _ hK1 _ => ?_
  refine CJ.region ?_
  refine J.p (PR.assign rfl) rfl ?_
  refine J.nil ?_
  refine EJ.thenN (hK1 ?_)
  refine CJ.seq fun _ hK2 _ => ?_
  refine CJ.region ?_
  refine J.p (PR.move rfl) rfl ?_
  refine J.p (PR.add rfl rfl (by first | exact nw _ (by omega) | rfl)) rfl ?_
  refine J.makeI (m := m + 1) u26 ze2 sz2 by2 rfl rfl (by omega) (by omega) (by omega) rfl fun g12 => ?_
  refine J.p (PR.assign rfl) rfl ?_
  refine J.nil ?_
  refine EJ.thenN (hK2 ?_)
  refine CJ.seq fun _ hK3 _ => ?_
  refine CJ.region ?_
  refine J.p (PR.move rfl) rfl ?_
  refine J.p (PR.idxO1 (i' := 0) u26 sz2 rfl rfl rfl (by omega)) rfl ?_
  refine J.storeI rfl rfl sz2 ((by simp)) At.z ?_
  refine J.nil ?_
  refine EJ.thenN (hK3 ?_)
  refine CJ.seq fun _ hK4 _ => ?_
  refine CJ.seq fun _ hK5 _ => ?_
  refine CJ.region ?_
  refine J.p (PR.move rfl) rfl ?_
  refine J.p (PR.lenSlice u26 rfl rfl) rfl ?_
  refine J.p (PR.move rfl) rfl ?_
  refine J.nil ?_
  refine EJ.thenN (hK5 ?_)
  refine CJ.block ?_
  refine CJ.loopU (σ := Nat) (fun (i : Nat) => [(17, .int .i64 (i : Int))]) (fun (i : Nat) => H) (fun (i : Nat) => obj g12 (.cells (intsC (serK ds m i)).toArray 2 (0, 0)) :: L) (fun (i : Nat) => i ≤ ds.length) (fun (i : Nat) => ds.length - i) 0 (by omega) ⟨rfl, trivial⟩ rfl rfl ?_
  rintro i hI _ hAg0
  have hk := hI
  have hd1 : ∀ j, j < ds.length → 1 ≤ ds.getD j 0 := fun j hj => (hd j hj).1
  refine CJ.seq fun _ hK6 _ => ?_
  refine CJ.region ?_
  refine J.p (PR.lss rfl rfl) rfl ?_
  refine J.nil ?_
  refine EJ.thenN (hK6 ?_)
  refine CJ.seq fun _ hK7 _ => ?_
  refine CJ.condD rfl (fun hc18 => ?_) (fun hc18 => ?_)
  ·
    refine CJ.skip ?_
    refine EJ.thenN (hK7 ?_)
    refine CJ.seq fun _ hK8 _ => ?_
    refine CJ.block ?_
    refine CJ.seq fun _ hK9 _ => ?_
    refine CJ.region ?_
    refine J.p (PR.idx1 u26 sz2 rfl rfl rfl (by omega) hds.sm) rfl ?_
    refine J.p (PR.loadH rfl (hds _ (by omega)) pl2) rfl ?_
    refine J.p (PR.assign rfl) rfl ?_
    refine J.nil ?_
    refine EJ.thenN (hK9 ?_)
    refine CJ.seq fun _ hK10 _ => ?_
    refine CJ.seq fun _ hK11 _ => ?_
    refine CJ.region ?_
    refine J.p (PR.move rfl) rfl ?_
    refine J.p (PR.rem rfl rfl (by decide) rfl) rfl ?_
    refine J.p (PR.eql rfl rfl) rfl ?_
    refine J.nil ?_
    refine EJ.thenN (hK11 ?_)
    refine CJ.condD rfl (fun hc23 => ?_) (fun hc23 => ?_)
    ·
      have hdi := hd i (by omega)
      refine CJ.seq fun _ hK12 _ => ?_
      refine CJ.seq fun _ hK13 _ => ?_
      refine CJ.region ?_
      refine J.p (PR.move rfl) rfl ?_
      refine J.p (PR.assign rfl) rfl ?_
      refine J.nil ?_
      refine EJ.thenN (hK13 ?_)
      refine CJ.block ?_
      refine CJ.loopU (σ := Nat) (fun (cc : Nat) => [(8, .int .i64 ((m : Int) - cc))]) (fun (cc : Nat) => H) (fun (cc : Nat) => obj g12 (.cells (intsC (passO (ds.getD i 0).toNat m cc (serK ds m i))).toArray 2 (0, 0)) :: L) (fun (cc : Nat) => cc ≤ m + 1 - (ds.getD i 0).toNat) (fun (cc : Nat) => m + 1 - cc) 0 (by omega) ⟨(vi (by omega)), trivial⟩ rfl rfl ?_
      rintro cc hJ _ hAg1
      have hcc := hJ
      have bO := serO_bd (i := i) (c := cc) hm hn hd1 (by omega) (by omega) (by omega)
      refine CJ.seq fun _ hK14 _ => ?_
      refine CJ.seq fun _ hK15 _ => ?_
      refine CJ.region ?_
      refine J.p (PR.move rfl) rfl ?_
      refine J.p (PR.move rfl) rfl ?_
      refine J.p (PR.geq rfl rfl) rfl ?_
      refine J.nil ?_
      refine EJ.thenN (hK15 ?_)
      refine CJ.condD rfl (fun hc27 => ?_) (fun hc27 => ?_)
      ·
        refine CJ.skip ?_
        refine EJ.thenN (hK14 ?_)
        refine CJ.seq fun _ hK16 _ => ?_
        refine CJ.block ?_
        refine CJ.head [[], [], [0, 1], [2], [], [], [], [5, 6], [4, 7], [8]] (by kernel_rfl) ?_
        refine HJ.op (fun gh => PR.move rfl) ?_
        refine HJ.op (fun gh => PR.move rfl) ?_
        refine HJ.op (fun gh => PR.idxO1 (i' := (m - cc)) u26 sz2 rfl rfl (by omega) (by omega)) ?_
        refine HJ.op (fun gh => PR.load rfl At.z (intsC_get (by rw [passO_length, serK_length]; omega)) pl2) ?_
        refine HJ.op (fun gh => PR.move rfl) ?_
        refine HJ.op (fun gh => PR.move rfl) ?_
        refine HJ.op (fun gh => PR.move rfl) ?_
        refine HJ.op (fun gh => PR.sub rfl rfl (by first | exact nw _ (by omega) | rfl)) ?_
        refine HJ.op (fun gh => PR.idxO1 (i' := (m - cc - (ds.getD i 0).toNat)) u26 sz2 rfl rfl (by omega) (by omega)) ?_
        refine HJ.op (fun gh => PR.load rfl At.z (intsC_get (by rw [passO_length, serK_length]; omega)) pl2) ?_
        refine HJ.close 10 3 foll0 (by kernel_rfl) rfl rfl fun gh => ?_
        refine J.conv (us' := (30, _) :: (31, _) :: (32, _) :: (33, _) :: (34, _) :: (35, _) :: (36, _) :: (37, _) :: (38, _) :: (39, _) :: _) (L' := _) rfl rfl ?_
        refine J.p (PR.add rfl rfl (nw _ (by have b1 := bO (m - cc); have b2 := bO (m - cc - (ds.getD i 0).toNat); omega))) rfl ?_
        refine J.p (PR.idxO1 (i' := (m - cc)) u26 sz2 rfl rfl (by omega) (by omega)) rfl ?_
        refine J.storeI rfl rfl sz2 ((by rw [passO_length, serK_length]; omega)) At.z ?_
        refine J.nil ?_
        refine EJ.still ?_
        refine JS.nil ?_
        refine EJ.inN ?_
        refine EJ.thenN (hK16 ?_)
        refine CJ.region ?_
        refine J.p (PR.move rfl) rfl ?_
        refine J.p (PR.sub rfl rfl (by first | exact nw _ (by omega) | rfl)) rfl ?_
        refine J.p (PR.assign rfl) rfl ?_
        refine J.nil ?_
        refine EJ.thenN ?_
        exact hAg1 (cc + 1) (by omega) (by omega) 19 rfl rfl ⟨(vi (by omega)), trivial⟩ rfl (by rw [passO]; rfl)
      ·
        refine CJ.exit ?_
        refine EJ.thenE ?_
        refine EJ.thenE ?_
        refine EJ.inE ?_
        refine EJ.thenN (hK12 ?_)
        refine CJ.exit ?_
        refine EJ.thenE ?_
        refine EJ.inE ?_
        refine EJ.thenN (hK8 ?_)
        refine CJ.region ?_
        refine J.p (PR.add rfl rfl (by first | exact nw _ (by omega) | rfl)) rfl ?_
        refine J.p (PR.move rfl) rfl ?_
        refine J.nil ?_
        refine EJ.thenN ?_
        exact hAg0 (i + 1) (by omega) (by omega) 16 rfl rfl ⟨rfl, trivial⟩ rfl (by rw [serK, pass_odd hc23, show cc = m + 1 - (ds.getD i 0).toNat by omega])
    ·
      have hdi := hd i (by omega)
      refine CJ.skip ?_
      refine EJ.thenN (hK10 ?_)
      refine CJ.seq fun _ hK17 _ => ?_
      refine CJ.region ?_
      refine J.p (PR.move rfl) rfl ?_
      refine J.p (PR.assign rfl) rfl ?_
      refine J.nil ?_
      refine EJ.thenN (hK17 ?_)
      refine CJ.block ?_
      refine CJ.loopU (σ := Nat) (fun (cc : Nat) => [(9, .int .i64 (ds.getD i 0 + cc))]) (fun (cc : Nat) => H) (fun (cc : Nat) => obj g12 (.cells (intsC (passE (ds.getD i 0).toNat cc (serK ds m i))).toArray 2 (0, 0)) :: L) (fun (cc : Nat) => cc ≤ m + 1 - (ds.getD i 0).toNat) (fun (cc : Nat) => m + 1 - cc) 0 (by omega) ⟨(vi (by omega)), trivial⟩ rfl rfl ?_
      rintro cc hJ _ hAg2
      have hcc := hJ
      have bE := serE_bd (i := i) (c := cc) hm hn hd1 (by omega) (by omega)
      refine CJ.seq fun _ hK18 _ => ?_
      refine CJ.seq fun _ hK19 _ => ?_
      refine CJ.region ?_
      refine J.p (PR.move rfl) rfl ?_
      refine J.p (PR.move rfl) rfl ?_
      refine J.p (PR.leq rfl rfl) rfl ?_
      refine J.nil ?_
      refine EJ.thenN (hK19 ?_)
      refine CJ.condD rfl (fun hc45 => ?_) (fun hc45 => ?_)
      ·
        refine CJ.skip ?_
        refine EJ.thenN (hK18 ?_)
        refine CJ.seq fun _ hK20 _ => ?_
        refine CJ.block ?_
        refine CJ.head [[], [], [0, 1], [2], [], [], [], [5, 6], [4, 7], [8]] (by kernel_rfl) ?_
        refine HJ.op (fun gh => PR.move rfl) ?_
        refine HJ.op (fun gh => PR.move rfl) ?_
        refine HJ.op (fun gh => PR.idxO1 (i' := ((ds.getD i 0).toNat + cc)) u26 sz2 rfl rfl (by omega) (by omega)) ?_
        refine HJ.op (fun gh => PR.load rfl At.z (intsC_get (by rw [passE_length, serK_length]; omega)) pl2) ?_
        refine HJ.op (fun gh => PR.move rfl) ?_
        refine HJ.op (fun gh => PR.move rfl) ?_
        refine HJ.op (fun gh => PR.move rfl) ?_
        refine HJ.op (fun gh => PR.sub rfl rfl (by first | exact nw _ (by omega) | rfl)) ?_
        refine HJ.op (fun gh => PR.idxO1 (i' := ((ds.getD i 0).toNat + cc - (ds.getD i 0).toNat)) u26 sz2 rfl rfl (by omega) (by omega)) ?_
        refine HJ.op (fun gh => PR.load rfl At.z (intsC_get (by rw [passE_length, serK_length]; omega)) pl2) ?_
        refine HJ.close 10 3 foll0 (by kernel_rfl) rfl rfl fun gh => ?_
        refine J.conv (us' := (48, _) :: (49, _) :: (50, _) :: (51, _) :: (52, _) :: (53, _) :: (54, _) :: (55, _) :: (56, _) :: (57, _) :: _) (L' := _) rfl rfl ?_
        refine J.p (PR.add rfl rfl (nw _ (by have b1 := bE ((ds.getD i 0).toNat + cc); have b2 := bE ((ds.getD i 0).toNat + cc - (ds.getD i 0).toNat); omega))) rfl ?_
        refine J.p (PR.idxO1 (i' := ((ds.getD i 0).toNat + cc)) u26 sz2 rfl rfl (by omega) (by omega)) rfl ?_
        refine J.storeI rfl rfl sz2 ((by rw [passE_length, serK_length]; omega)) At.z ?_
        refine J.nil ?_
        refine EJ.still ?_
        refine JS.nil ?_
        refine EJ.inN ?_
        refine EJ.thenN (hK20 ?_)
        refine CJ.region ?_
        refine J.p (PR.move rfl) rfl ?_
        refine J.p (PR.add rfl rfl (by first | exact nw _ (by omega) | rfl)) rfl ?_
        refine J.p (PR.assign rfl) rfl ?_
        refine J.nil ?_
        refine EJ.thenN ?_
        exact hAg2 (cc + 1) (by omega) (by omega) 19 rfl rfl ⟨(vi (by omega)), trivial⟩ rfl (by rw [passE]; rfl)
      ·
        refine CJ.exit ?_
        refine EJ.thenE ?_
        refine EJ.thenE ?_
        refine EJ.inE ?_
        refine EJ.inN ?_
        refine EJ.thenN (hK8 ?_)
        refine CJ.region ?_
        refine J.p (PR.add rfl rfl (by first | exact nw _ (by omega) | rfl)) rfl ?_
        refine J.p (PR.move rfl) rfl ?_
        refine J.nil ?_
        refine EJ.thenN ?_
        exact hAg0 (i + 1) (by omega) (by omega) 16 rfl rfl ⟨rfl, trivial⟩ rfl (by rw [serK, pass_even hc23, show cc = m + 1 - (ds.getD i 0).toNat by omega])
  ·
    refine CJ.exit ?_
    refine EJ.thenE ?_
    refine EJ.thenE ?_
    refine EJ.inE ?_
    refine EJ.thenN (hK4 ?_)
    refine CJ.seq fun _ hK21 _ => ?_
    refine CJ.region ?_
    refine J.p (PR.move rfl) rfl ?_
    refine J.p (PR.assign rfl) rfl ?_
    refine J.nil ?_
    refine EJ.thenN (hK21 ?_)
    refine CJ.ret ?_
    refine EJ.ret1 rfl (Res.tmp rfl) fun w hH => ?_
    obtain rfl : i = ds.length := by omega
    have e1 : (series ds m).length = m + 1 := by simp
    refine ⟨_, _, by rw [e1], ?_⟩
    rw [e1]
    exact own_full (m + 1) 1 hH (by simp) (by simp only [maxLen]; omega)
set_option maxHeartbeats 2000000 in
set_option maxRecDepth 10000 in
theorem l08Series_c {B : World} {H0 H : HP} {L : List SA} {w : World} {qds : Option Addr} {cds : Nat} {ds : List Int} {m : Nat} (hds : Ints H qds ds) (hn : ds.length ≤ 8) (hd : ∀ j, j < ds.length → 1 ≤ ds.getD j 0 ∧ ds.getD j 0 ≤ 12) (hm : m ≤ 40) (hH : Hp B H0 H L w) :
    Calls Try.prog 63 [.slice qds ds.length cds, .int .i64 (m : Int)].toArray w fun e w' => ∃ q c, e = .returned (.slice q (series ds m).length c) ∧ Hp B H0 H (own 2 1 q (series ds m).length c (intsC (series ds m)) :: L) w' := by
  refine CJ.enter Try.func63 rfl 69 rfl rfl [(0, .slice qds ds.length cds), (1, .int .i64 (m : Int))] rfl hH ?_
  clear hH
  refine CJ.seq fun _ hK1 _ => ?_
  refine CJ.region ?_
  refine J.p (PR.assign rfl) rfl ?_
  refine J.nil ?_
  refine EJ.thenN (hK1 ?_)
  refine CJ.seq fun _ hK2 _ => ?_
  refine CJ.region ?_
  refine J.p (PR.move rfl) rfl ?_
  refine J.p (PR.add rfl rfl (by first | exact nw _ (by omega) | rfl)) rfl ?_
  refine J.makeI (m := m + 1) u26 ze2 sz2 by2 rfl rfl (by omega) (by omega) (by omega) rfl fun g12 => ?_
  refine J.p (PR.assign rfl) rfl ?_
  refine J.nil ?_
  refine EJ.thenN (hK2 ?_)
  refine CJ.seq fun _ hK3 _ => ?_
  refine CJ.region ?_
  refine J.p (PR.move rfl) rfl ?_
  refine J.p (PR.idxO1 (i' := 0) u26 sz2 rfl rfl rfl (by omega)) rfl ?_
  refine J.storeI rfl rfl sz2 ((by simp)) At.z ?_
  refine J.nil ?_
  refine EJ.thenN (hK3 ?_)
  refine CJ.seq fun _ hK4 _ => ?_
  refine CJ.seq fun _ hK5 _ => ?_
  refine CJ.region ?_
  refine J.p (PR.assign rfl) rfl ?_
  refine J.nil ?_
  refine EJ.thenN (hK5 ?_)
  refine CJ.block ?_
  refine CJ.loopU (σ := Nat) (fun (i : Nat) => [(6, .int .i64 (i : Int))]) (fun (i : Nat) => H) (fun (i : Nat) => obj g12 (.cells (intsC (serK ds m i)).toArray 2 (0, 0)) :: L) (fun (i : Nat) => i ≤ ds.length) (fun (i : Nat) => ds.length - i) 0 (by omega) ⟨rfl, trivial⟩ rfl rfl ?_
  rintro i hI _ hAg0
  have hk := hI
  have hd1 : ∀ j, j < ds.length → 1 ≤ ds.getD j 0 := fun j hj => (hd j hj).1
  refine CJ.seq fun _ hK6 _ => ?_
  refine CJ.seq fun _ hK7 _ => ?_
  refine CJ.region ?_
  refine J.p (PR.move rfl) rfl ?_
  refine J.p (PR.move rfl) rfl ?_
  refine J.p (PR.lenSlice u26 rfl rfl) rfl ?_
  refine J.p (PR.lss rfl rfl) rfl ?_
  refine J.nil ?_
  refine EJ.thenN (hK7 ?_)
  refine CJ.condD rfl (fun hc18 => ?_) (fun hc18 => ?_)
  ·
    refine CJ.skip ?_
    refine EJ.thenN (hK6 ?_)
    refine CJ.seq fun _ hK8 _ => ?_
    refine CJ.block ?_
    refine CJ.seq fun _ hK9 _ => ?_
    refine CJ.region ?_
    refine J.p (PR.move rfl) rfl ?_
    refine J.p (PR.move rfl) rfl ?_
    refine J.p (PR.idx1 u26 sz2 rfl rfl rfl (by omega) hds.sm) rfl ?_
    refine J.p (PR.loadH rfl (hds _ (by omega)) pl2) rfl ?_
    refine J.p (PR.assign rfl) rfl ?_
    refine J.nil ?_
    refine EJ.thenN (hK9 ?_)
    refine CJ.seq fun _ hK10 _ => ?_
    refine CJ.region ?_
    refine J.p (PR.move rfl) rfl ?_
    refine J.p (PR.rem rfl rfl (by decide) rfl) rfl ?_
    refine J.p (PR.eql rfl rfl) rfl ?_
    refine J.nil ?_
    refine EJ.thenN (hK10 ?_)
    refine CJ.condD rfl (fun hc27 => ?_) (fun hc27 => ?_)
    ·
      have hdi := hd i (by omega)
      refine CJ.seq fun _ hK11 _ => ?_
      refine CJ.region ?_
      refine J.p (PR.move rfl) rfl ?_
      refine J.p (PR.assign rfl) rfl ?_
      refine J.nil ?_
      refine EJ.thenN (hK11 ?_)
      refine CJ.block ?_
      refine CJ.loopU (σ := Nat) (fun (cc : Nat) => [(8, .int .i64 (ds.getD i 0 + cc))]) (fun (cc : Nat) => H) (fun (cc : Nat) => obj g12 (.cells (intsC (passE (ds.getD i 0).toNat cc (serK ds m i))).toArray 2 (0, 0)) :: L) (fun (cc : Nat) => cc ≤ m + 1 - (ds.getD i 0).toNat) (fun (cc : Nat) => m + 1 - cc) 0 (by omega) ⟨(vi (by omega)), trivial⟩ rfl rfl ?_
      rintro cc hJ _ hAg1
      have hcc := hJ
      have bE := serE_bd (i := i) (c := cc) hm hn hd1 (by omega) (by omega)
      refine CJ.seq fun _ hK12 _ => ?_
      refine CJ.seq fun _ hK13 _ => ?_
      refine CJ.region ?_
      refine J.p (PR.move rfl) rfl ?_
      refine J.p (PR.move rfl) rfl ?_
      refine J.p (PR.leq rfl rfl) rfl ?_
      refine J.nil ?_
      refine EJ.thenN (hK13 ?_)
      refine CJ.condD rfl (fun hc31 => ?_) (fun hc31 => ?_)
      ·
        refine CJ.skip ?_
        refine EJ.thenN (hK12 ?_)
        refine CJ.seq fun _ hK14 _ => ?_
        refine CJ.block ?_
        refine CJ.head [[], [], [], [], [2, 3], [4], [], [], [], [7, 8], [6, 9], [10], [5, 11]] (by kernel_rfl) ?_
        refine HJ.op (fun gh => PR.move rfl) ?_
        refine HJ.op (fun gh => PR.move rfl) ?_
        refine HJ.op (fun gh => PR.move rfl) ?_
        refine HJ.op (fun gh => PR.move rfl) ?_
        refine HJ.op (fun gh => PR.idxO1 (i' := ((ds.getD i 0).toNat + cc)) u26 sz2 rfl rfl (by omega) (by omega)) ?_
        refine HJ.op (fun gh => PR.load rfl At.z (intsC_get (by rw [passE_length, serK_length]; omega)) pl2) ?_
        refine HJ.op (fun gh => PR.move rfl) ?_
        refine HJ.op (fun gh => PR.move rfl) ?_
        refine HJ.op (fun gh => PR.move rfl) ?_
        refine HJ.op (fun gh => PR.sub rfl rfl (by first | exact nw _ (by omega) | rfl)) ?_
        refine HJ.op (fun gh => PR.idxO1 (i' := ((ds.getD i 0).toNat + cc - (ds.getD i 0).toNat)) u26 sz2 rfl rfl (by omega) (by omega)) ?_
        refine HJ.op (fun gh => PR.load rfl At.z (intsC_get (by rw [passE_length, serK_length]; omega)) pl2) ?_
        refine HJ.op (fun gh => PR.add rfl rfl (nw _ (by have b1 := bE ((ds.getD i 0).toNat + cc); have b2 := bE ((ds.getD i 0).toNat + cc - (ds.getD i 0).toNat); omega))) ?_
        refine HJ.close 13 2 foll0 (by kernel_rfl) rfl rfl fun gh => ?_
        refine J.conv (us' := (34, _) :: (35, _) :: (36, _) :: (37, _) :: (38, _) :: (39, _) :: (40, _) :: (41, _) :: (42, _) :: (43, _) :: (44, _) :: (45, _) :: (46, _) :: _) (L' := _) rfl rfl ?_
        refine J.p (PR.idxO1 (i' := ((ds.getD i 0).toNat + cc)) u26 sz2 rfl rfl (by omega) (by omega)) rfl ?_
        refine J.storeI rfl rfl sz2 ((by rw [passE_length, serK_length]; omega)) At.z ?_
        refine J.nil ?_
        refine EJ.still ?_
        refine JS.nil ?_
        refine EJ.inN ?_
        refine EJ.thenN (hK14 ?_)
        refine CJ.region ?_
        refine J.p (PR.move rfl) rfl ?_
        refine J.p (PR.add rfl rfl (by first | exact nw _ (by omega) | rfl)) rfl ?_
        refine J.p (PR.assign rfl) rfl ?_
        refine J.nil ?_
        refine EJ.thenN ?_
        exact hAg1 (cc + 1) (by omega) (by omega) 21 rfl rfl ⟨(vi (by omega)), trivial⟩ rfl (by rw [passE]; rfl)
      ·
        refine CJ.exit ?_
        refine EJ.thenE ?_
        refine EJ.thenE ?_
        refine EJ.inE ?_
        refine EJ.inN ?_
        refine EJ.thenN (hK8 ?_)
        refine CJ.region ?_
        refine J.p (PR.move rfl) rfl ?_
        refine J.p (PR.add rfl rfl (by first | exact nw _ (by omega) | rfl)) rfl ?_
        refine J.p (PR.assign rfl) rfl ?_
        refine J.nil ?_
        refine EJ.thenN ?_
        exact hAg0 (i + 1) (by omega) (by omega) 22 rfl rfl ⟨rfl, trivial⟩ rfl (by rw [serK, pass_even (by omega), show cc = m + 1 - (ds.getD i 0).toNat by omega])
    ·
      have hdi := hd i (by omega)
      refine CJ.seq fun _ hK15 _ => ?_
      refine CJ.region ?_
      refine J.p (PR.move rfl) rfl ?_
      refine J.p (PR.assign rfl) rfl ?_
      refine J.nil ?_
      refine EJ.thenN (hK15 ?_)
      refine CJ.block ?_
      refine CJ.loopU (σ := Nat) (fun (cc : Nat) => [(9, .int .i64 ((m : Int) - cc))]) (fun (cc : Nat) => H) (fun (cc : Nat) => obj g12 (.cells (intsC (passO (ds.getD i 0).toNat m cc (serK ds m i))).toArray 2 (0, 0)) :: L) (fun (cc : Nat) => cc ≤ m + 1 - (ds.getD i 0).toNat) (fun (cc : Nat) => m + 1 - cc) 0 (by omega) ⟨(vi (by omega)), trivial⟩ rfl rfl ?_
      rintro cc hJ _ hAg2
      have hcc := hJ
      have bO := serO_bd (i := i) (c := cc) hm hn hd1 (by omega) (by omega) (by omega)
      refine CJ.seq fun _ hK16 _ => ?_
      refine CJ.seq fun _ hK17 _ => ?_
      refine CJ.region ?_
      refine J.p (PR.move rfl) rfl ?_
      refine J.p (PR.move rfl) rfl ?_
      refine J.p (PR.geq rfl rfl) rfl ?_
      refine J.nil ?_
      refine EJ.thenN (hK17 ?_)
      refine CJ.condD rfl (fun hc51 => ?_) (fun hc51 => ?_)
      ·
        refine CJ.skip ?_
        refine EJ.thenN (hK16 ?_)
        refine CJ.seq fun _ hK18 _ => ?_
        refine CJ.block ?_
        refine CJ.head [[], [], [], [], [2, 3], [4], [], [], [], [7, 8], [6, 9], [10], [5, 11]] (by kernel_rfl) ?_
        refine HJ.op (fun gh => PR.move rfl) ?_
        refine HJ.op (fun gh => PR.move rfl) ?_
        refine HJ.op (fun gh => PR.move rfl) ?_
        refine HJ.op (fun gh => PR.move rfl) ?_
        refine HJ.op (fun gh => PR.idxO1 (i' := (m - cc)) u26 sz2 rfl rfl (by omega) (by omega)) ?_
        refine HJ.op (fun gh => PR.load rfl At.z (intsC_get (by rw [passO_length, serK_length]; omega)) pl2) ?_
        refine HJ.op (fun gh => PR.move rfl) ?_
        refine HJ.op (fun gh => PR.move rfl) ?_
        refine HJ.op (fun gh => PR.move rfl) ?_
        refine HJ.op (fun gh => PR.sub rfl rfl (by first | exact nw _ (by omega) | rfl)) ?_
        refine HJ.op (fun gh => PR.idxO1 (i' := (m - cc - (ds.getD i 0).toNat)) u26 sz2 rfl rfl (by omega) (by omega)) ?_
        refine HJ.op (fun gh => PR.load rfl At.z (intsC_get (by rw [passO_length, serK_length]; omega)) pl2) ?_
        refine HJ.op (fun gh => PR.add rfl rfl (nw _ (by have b1 := bO (m - cc); have b2 := bO (m - cc - (ds.getD i 0).toNat); omega))) ?_
        refine HJ.close 13 2 foll0 (by kernel_rfl) rfl rfl fun gh => ?_
        refine J.conv (us' := (54, _) :: (55, _) :: (56, _) :: (57, _) :: (58, _) :: (59, _) :: (60, _) :: (61, _) :: (62, _) :: (63, _) :: (64, _) :: (65, _) :: (66, _) :: _) (L' := _) rfl rfl ?_
        refine J.p (PR.idxO1 (i' := (m - cc)) u26 sz2 rfl rfl (by omega) (by omega)) rfl ?_
        refine J.storeI rfl rfl sz2 ((by rw [passO_length, serK_length]; omega)) At.z ?_
        refine J.nil ?_
        refine EJ.still ?_
        refine JS.nil ?_
        refine EJ.inN ?_
        refine EJ.thenN (hK18 ?_)
        refine CJ.region ?_
        refine J.p (PR.move rfl) rfl ?_
        refine J.p (PR.sub rfl rfl (by first | exact nw _ (by omega) | rfl)) rfl ?_
        refine J.p (PR.assign rfl) rfl ?_
        refine J.nil ?_
        refine EJ.thenN ?_
        exact hAg2 (cc + 1) (by omega) (by omega) 21 rfl rfl ⟨(vi (by omega)), trivial⟩ rfl (by rw [passO]; rfl)
      ·
        refine CJ.exit ?_
        refine EJ.thenE ?_
        refine EJ.thenE ?_
        refine EJ.inE ?_
        refine EJ.inN ?_
        refine EJ.thenN (hK8 ?_)
        refine CJ.region ?_
        refine J.p (PR.move rfl) rfl ?_
        refine J.p (PR.add rfl rfl (by first | exact nw _ (by omega) | rfl)) rfl ?_
        refine J.p (PR.assign rfl) rfl ?_
        refine J.nil ?_
        refine EJ.thenN ?_
        exact hAg0 (i + 1) (by omega) (by omega) 22 rfl rfl ⟨rfl, trivial⟩ rfl (by rw [serK, pass_odd (by have := tmod_two (d := ds.getD i 0) (by omega); omega), show cc = m + 1 - (ds.getD i 0).toNat by omega])
  ·
    refine CJ.exit ?_
    refine EJ.thenE ?_
    refine EJ.thenE ?_
    refine EJ.inE ?_
    refine EJ.thenN (hK4 ?_)
    refine CJ.seq fun _ hK19 _ => ?_
    refine CJ.region ?_
    refine J.p (PR.move rfl) rfl ?_
    refine J.p (PR.assign rfl) rfl ?_
    refine J.nil ?_
    refine EJ.thenN (hK19 ?_)
    refine CJ.ret ?_
    refine EJ.ret1 rfl (Res.tmp rfl) fun w hH => ?_
    obtain rfl : i = ds.length := by omega
    have e1 : (series ds m).length = m + 1 := by simp
    refine ⟨_, _, by rw [e1], ?_⟩
    rw [e1]
    exact own_full (m + 1) 1 hH (by simp) (by simp only [maxLen]; omega)

def serOk (ds : List Int) (m : Int) : Bool := isDeg ds && (decide (0 ≤ m) && decide (m ≤ 40))
def serF (ds : List Int) (m : Int) : List Int := if serOk ds m then series ds m.toNat else []
def serCode (ds : List Int) (m : Int) : Int := if isDeg ds then (if decide (0 ≤ m) && decide (m ≤ 40) then 0 else 2) else 1

set_option maxRecDepth 10000 in
theorem sFreeSeries_c {B : World} {H0 H : HP} {L : List SA} {w : World} {qds : Option Addr} {cds : Nat} {ds : List Int} {m : Int} (hds : Ints H qds ds) (hn : ds.length ≤ 1048576) (hH : Hp B H0 H L w) :
    Calls Try.prog 26 [.slice qds ds.length cds, .int .i64 m].toArray w fun e w' => ∃ q c, e = .returned (.tuple #[.slice q (serF ds m).length c, .int .i64 (serCode ds m)]) ∧ Hp B H0 H (own 2 1 q (serF ds m).length c (intsC (serF ds m)) :: L) w' := by
  refine CJ.enter Try.func26 rfl 17 rfl rfl [(0, .slice qds ds.length cds), (1, .int .i64 m)] rfl hH ?_
  clear hH
  refine CJ.seq fun _ hK1 _ => ?_
  refine CJ.region ?_
  refine J.p (PR.assign rfl) rfl ?_
  refine J.p (PR.assign rfl) rfl ?_
  refine J.nil ?_
  refine EJ.thenN (hK1 ?_)
  refine CJ.seq fun _ hK2 _ => ?_
  refine CJ.block ?_
  refine CJ.seq fun _ hK3 _ => ?_
  refine CJ.region ?_
  refine J.p (PR.move rfl) rfl ?_
  refine J.call fn54 rfl rfl fun w hH => (l01Degrees_c hds (by omega) hH).mono ?_
  rintro _ w ⟨rfl, hH⟩
  refine ⟨_, rfl, fun a hF => J.of hF hH ?_⟩
  refine J.p (PR.not rfl) rfl ?_
  refine J.p (PR.assign rfl) rfl ?_
  refine J.nil ?_
  refine EJ.thenN (hK3 ?_)
  refine CJ.cond rfl (fun h6 => ?_) (fun h6 => ?_)
  ·
    have hbad := nott h6
    refine CJ.seq fun _ hK4 _ => ?_
    refine CJ.region ?_
    refine J.p (PR.assign rfl) rfl ?_
    refine J.p (PR.assign rfl) rfl ?_
    refine J.nil ?_
    refine EJ.thenN (hK4 ?_)
    refine CJ.ret ?_
    refine EJ.inR ?_
    refine EJ.thenR ?_
    refine EJ.ret2 rfl (Res.tmp rfl) (Res.tmp rfl) fun w hH => ?_
    have e1 : serF ds m = [] := if_neg (by unfold serOk; rw [hbad]; simp)
    have e2 : serCode ds m = 1 := if_neg (by rw [hbad]; simp)
    rw [e1, e2]
    exact ⟨none, 0, rfl, hH.own0 2 1⟩
  ·
    have hdg := notf h6
    refine CJ.seq fun _ hK5 _ => ?_
    refine CJ.region ?_
    refine J.p (PR.move rfl) rfl ?_
    refine J.call fn50 rfl rfl fun w hH => (l01In_c  hH).mono ?_
    rintro _ w ⟨rfl, hH⟩
    refine ⟨_, rfl, fun a hF => J.of hF hH ?_⟩
    refine J.p (PR.not rfl) rfl ?_
    refine J.p (PR.assign rfl) rfl ?_
    refine J.nil ?_
    refine EJ.thenN (hK5 ?_)
    refine CJ.cond rfl (fun h10 => ?_) (fun h10 => ?_)
    ·
      have hbad := nott h10
      refine CJ.seq fun _ hK6 _ => ?_
      refine CJ.region ?_
      refine J.p (PR.assign rfl) rfl ?_
      refine J.p (PR.assign rfl) rfl ?_
      refine J.nil ?_
      refine EJ.thenN (hK6 ?_)
      refine CJ.ret ?_
      refine EJ.inR ?_
      refine EJ.thenR ?_
      refine EJ.ret2 rfl (Res.tmp rfl) (Res.tmp rfl) fun w hH => ?_
      have e1 : serF ds m = [] := if_neg (by unfold serOk; rw [hbad]; simp)
      have e2 : serCode ds m = 2 := by unfold serCode; rw [if_pos hdg, if_neg (by rw [hbad]; simp)]
      rw [e1, e2]
      exact ⟨none, 0, rfl, hH.own0 2 1⟩
    ·
      have hok : serOk ds m = true := Bool.and_eq_true_iff.2 ⟨hdg, notf h10⟩
      have hd1 := isDeg_one hdg
      have hl8 := isDeg_len hdg
      have hm1 : 0 ≤ m ∧ m ≤ 40 := by simpa using notf h10
      obtain ⟨mN, rfl⟩ : ∃ k : Nat, m = (k : Int) := ⟨m.toNat, by omega⟩
      refine CJ.skip ?_
      refine EJ.inN ?_
      refine EJ.thenN (hK2 ?_)
      refine CJ.seq fun _ hK7 _ => ?_
      refine CJ.region ?_
      refine J.p (PR.move rfl) rfl ?_
      refine J.p (PR.move rfl) rfl ?_
      refine J.call fn63 rfl rfl fun w hH => (l08Series_c hds hl8 hd1 (by omega) hH).mono ?_
      rintro _ w ⟨qo16, co16, rfl, hH⟩
      refine ⟨_, rfl, fun a hF => J.of hF hH ?_⟩
      refine J.p (PR.assign rfl) rfl ?_
      refine J.p (PR.assign rfl) rfl ?_
      refine J.nil ?_
      refine EJ.thenN (hK7 ?_)
      refine CJ.ret ?_
      refine EJ.ret2 rfl (Res.tmp rfl) (Res.tmp rfl) fun w hH => ?_
      have e1 : serF ds (mN : Int) = series ds mN := if_pos hok
      have e2 : serCode ds mN = 0 := by unfold serCode; rw [if_pos (Bool.and_eq_true_iff.1 hok).1, if_pos (Bool.and_eq_true_iff.1 hok).2]
      rw [e1, e2]
      exact ⟨_, _, rfl, hH⟩

theorem serF_len (ds : List Int) (m : Int) : (serF ds m).length ≤ 41 := by
  unfold serF serOk
  split
  · rename_i h
    have h2 := (Bool.and_eq_true_iff.1 h).2
    have : 0 ≤ m ∧ m ≤ 40 := by simpa using h2
    rw [series_length]; omega
  · simp
theorem codes_zero {a b : Bool} (h : (if a then 1 else if b then 2 else 0 : Int) = 0) : a = false ∧ b = false := by
  cases a <;> cases b <;> simp at h ⊢
theorem ser_bad {ds : List Int} {m : Int} (h : (if (!isDeg ds) then 1 else if (!(decide (0 ≤ m) && decide (m ≤ 40))) then 2 else 0 : Int) ≠ 0) :
    serF ds m = [] ∧ (if (!isDeg ds) then 1 else if (!(decide (0 ≤ m) && decide (m ≤ 40))) then 2 else 0 : Int) = serCode ds m := by
  unfold serF serOk serCode
  cases h1 : isDeg ds <;> cases h2 : (decide (0 ≤ m) && decide (m ≤ 40)) <;> simp_all
theorem codes_two {a b : Bool} : firstOf [if a then 1 else 0, if b then 2 else 0] = if a then 1 else if b then 2 else 0 := by
  rw [firstOf_two]
  cases a <;> cases b <;> rfl

set_option maxRecDepth 10000 in
theorem FreeSeries_c {B : World} {H0 H : HP} {L : List SA} {w : World} {qds : Option Addr} {cds : Nat} {ds : List Int} {m : Int} (hds : Ints H qds ds) (hn : ds.length ≤ 1048576) (hH : Hp B H0 H L w) :
    Calls Try.prog 27 [.slice qds ds.length cds, .int .i64 m].toArray w fun e w' => ∃ q c, e = .returned (.tuple #[.slice q (serF ds m).length c, .int .i64 (serCode ds m)]) ∧ Hp B H0 H (own 2 1 q (serF ds m).length c (intsC (serF ds m)) :: L) w' := by
  refine CJ.enter Try.func27 rfl 23 rfl rfl [(0, .slice qds ds.length cds), (1, .int .i64 m)] rfl hH ?_
  clear hH
  refine CJ.seq fun _ hK1 _ => ?_
  refine CJ.region ?_
  refine J.p (PR.assign rfl) rfl ?_
  refine J.p (PR.assign rfl) rfl ?_
  refine J.nil ?_
  refine EJ.thenN (hK1 ?_)
  refine CJ.seq fun _ hK2 _ => ?_
  refine CJ.seq fun _ hK3 _ => ?_
  refine CJ.region ?_
  refine J.p (PR.move rfl) rfl ?_
  refine J.call fn19 rfl rfl fun w hH => (AreDegrees_c hds (by omega) hH).mono ?_
  rintro _ w ⟨rfl, hH⟩
  refine ⟨_, rfl, fun a hF => J.of hF hH ?_⟩
  refine J.p (PR.not rfl) rfl ?_
  refine J.call fn65 rfl rfl fun w hH => (when_c  hH).mono ?_
  rintro _ w ⟨rfl, hH⟩
  refine ⟨_, rfl, fun a hF => J.of hF hH ?_⟩
  refine J.p (PR.move rfl) rfl ?_
  refine J.call fn66 rfl rfl fun w hH => (isLong_c  hH).mono ?_
  rintro _ w ⟨rfl, hH⟩
  refine ⟨_, rfl, fun a hF => J.of hF hH ?_⟩
  refine J.p (PR.not rfl) rfl ?_
  refine J.call fn65 rfl rfl fun w hH => (when_c  hH).mono ?_
  rintro _ w ⟨rfl, hH⟩
  refine ⟨_, rfl, fun a hF => J.of hF hH ?_⟩
  refine J.litI2 u26 ze2 sz2 rfl rfl rfl fun g15 => ?_
  refine J.call fn64 rfl rfl fun w hH => hH.lend .z fun Hl1 hle1 hA1 hB1 hH => (first_c (own_ints hA1) (by simp) hH).mono ?_
  rintro _ w ⟨rfl, hH⟩
  replace hH := hB1 _ _ hH
  refine ⟨_, rfl, fun a hF => J.of hF hH ?_⟩
  refine J.p (PR.assign rfl) rfl ?_
  refine J.nil ?_
  refine EJ.thenN (hK3 ?_)
  refine CJ.seq fun _ hK4 _ => ?_
  refine CJ.region ?_
  refine J.p (PR.move rfl) rfl ?_
  refine J.p (PR.neq rfl rfl) rfl ?_
  refine J.nil ?_
  refine EJ.thenN (hK4 ?_)
  refine CJ.condD rfl (fun h18 => ?_) (fun h18 => ?_)
  ·
    rw [codes_two] at h18 ⊢
    refine CJ.seq fun _ hK5 _ => ?_
    refine CJ.region ?_
    refine J.p (PR.move rfl) rfl ?_
    refine J.p (PR.assign rfl) rfl ?_
    refine J.p (PR.assign rfl) rfl ?_
    refine J.nil ?_
    refine EJ.thenN (hK5 ?_)
    refine CJ.ret ?_
    refine EJ.thenR ?_
    refine EJ.ret2 rfl (Res.tmp rfl) (Res.tmp rfl) fun w hH => ?_
    replace hH := hH.sublist (.cons _ (List.Sublist.refl _))
    obtain ⟨e1, e2⟩ := ser_bad h18
    rw [e1, ← e2]
    exact ⟨none, 0, rfl, hH.own0 2 1⟩
  ·
    rw [codes_two] at h18
    have hq := codes_zero (Decidable.not_not.1 h18)
    have hdg := notf hq.1
    have hok : serOk ds m = true := Bool.and_eq_true_iff.2 ⟨hdg, notf hq.2⟩
    have hd1 := isDeg_one hdg
    have hl8 := isDeg_len hdg
    have hm1 : 0 ≤ m ∧ m ≤ 40 := by simpa using notf hq.2
    obtain ⟨mN, rfl⟩ : ∃ k : Nat, m = (k : Int) := ⟨m.toNat, by omega⟩
    refine CJ.skip ?_
    refine EJ.thenN (hK2 ?_)
    refine CJ.seq fun _ hK6 _ => ?_
    refine CJ.region ?_
    refine J.p (PR.move rfl) rfl ?_
    refine J.p (PR.move rfl) rfl ?_
    refine J.call fn67 rfl rfl fun w hH => (series_c hds hl8 hd1 (by omega) hH).mono ?_
    rintro _ w ⟨qo22, co22, rfl, hH⟩
    refine ⟨_, rfl, fun a hF => J.of hF hH ?_⟩
    refine J.p (PR.assign rfl) rfl ?_
    refine J.p (PR.assign rfl) rfl ?_
    refine J.nil ?_
    refine EJ.thenN (hK6 ?_)
    refine CJ.ret ?_
    refine EJ.ret2 rfl (Res.tmp rfl) (Res.tmp rfl) fun w hH => ?_
    replace hH := hH.sublist (.cons_cons _ (.cons _ (List.Sublist.refl _)))
    have e1 : serF ds (mN : Int) = series ds mN := if_pos hok
    have e2 : serCode ds mN = 0 := by unfold serCode; rw [if_pos (Bool.and_eq_true_iff.1 hok).1, if_pos (Bool.and_eq_true_iff.1 hok).2]
    rw [e1, e2]
    exact ⟨_, _, rfl, hH⟩
end Go.Proofs.Ytodmnjbchegnaaa.G
