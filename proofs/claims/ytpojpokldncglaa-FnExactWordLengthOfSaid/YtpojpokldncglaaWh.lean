/- The walks: what each Go function does, shown from its text. No condition. -/
import Derived.Test.YtpojpokldncglaaGAlg
import Derived.Test.YtpojpokldncglaaProg
import Derived.Test.YtpojpokldncglaaWa
import Derived.Test.YtpojpokldncglaaWb
import Derived.Test.YtpojpokldncglaaWc
import Derived.Test.YtpojpokldncglaaWd
import Derived.Test.YtpojpokldncglaaWe
import Derived.Test.YtpojpokldncglaaWf
import Derived.Test.YtpojpokldncglaaWg
set_option linter.unusedVariables false
set_option linter.unusedSimpArgs false
namespace Go.Proofs.Ytpojpokldncglaa.G
open Go Go.RowKit
namespace Wh
theorem u2 : Try.prog.underlying 2 = some (TypeDesc.int .i64) := by kernel_rfl
theorem u22 : Try.prog.underlying 22 = some (TypeDesc.slice 2) := by kernel_rfl
theorem sz2 : Size Try.prog 2 1 := by unfold Size; kernel_rfl
theorem pl2 : Plain Try.prog 2 := ⟨_, u2, rfl⟩
end Wh
open Wh

def firstOf (xs : List Int) : Int := (xs.find? (fun x => decide (x ≠ 0))).getD 0
theorem firstOf_hit {xs : List Int} {k : Nat} (hk : k < xs.length) (h : ∀ j, j < k → xs.getD j 0 = 0) (hn : xs.getD k 0 ≠ 0) : firstOf xs = xs.getD k 0 := by
  have hg : ∀ j, (hj : j < xs.length) → xs[j] = xs.getD j 0 := fun j hj => by rw [List.getD_eq_getElem?_getD, List.getElem?_eq_getElem hj]; rfl
  unfold firstOf
  have : xs.find? (fun x => decide (x ≠ 0)) = some xs[k] := by
    rw [List.find?_eq_some_iff_getElem]
    exact ⟨by rw [hg]; exact decide_eq_true hn, k, hk, rfl, fun j hj => by rw [hg, h j hj]; rfl⟩
  rw [this, hg]
  rfl
theorem firstOf_miss {xs : List Int} (h : ∀ j, j < xs.length → xs.getD j 0 = 0) : firstOf xs = 0 := by
  unfold firstOf
  have : xs.find? (fun x => decide (x ≠ 0)) = none := by
    rw [List.find?_eq_none]
    intro x hx
    obtain ⟨j, hj, rfl⟩ := List.mem_iff_getElem.1 hx
    have := h j hj
    rw [List.getD_eq_getElem?_getD, List.getElem?_eq_getElem hj] at this
    simpa using this
  rw [this]
  rfl
theorem firstOf_two (a b : Int) : firstOf [a, b] = if a = 0 then b else a := by
  unfold firstOf
  by_cases h : a = 0
  · by_cases h2 : b = 0 <;> simp [h, h2]
  · simp [h]
theorem firstOf_three (a b c : Int) : firstOf [a, b, c] = if a = 0 then (if b = 0 then c else b) else a := by
  unfold firstOf
  by_cases h : a = 0
  · by_cases h2 : b = 0
    · by_cases h3 : c = 0 <;> simp [h, h2, h3]
    · simp [h, h2]
  · simp [h]

set_option maxRecDepth 10000 in
theorem when_c {B : World} {H0 H : HP} {L : List SA} {w : World} {b : Bool} {x : Int}   (hH : Hp B H0 H L w) :
    Calls Try.prog 75 [.bool b, .int .i64 x].toArray w fun e w' => e = .returned (.int .i64 (if b then x else 0)) ∧ Hp B H0 H L w' := by
  refine CJ.enter Try.func75 rfl 7 rfl rfl [(0, .bool b), (1, .int .i64 x)] rfl hH ?_
  clear hH
  refine CJ.seq fun _ hK1 _ => ?_
  refine CJ.region ?_
  refine J.p (PR.assign rfl) rfl ?_
  refine J.nil ?_
  refine EJ.thenN (hK1 ?_)
  refine CJ.seq fun _ hK2 _ => ?_
  refine CJ.seq fun _ hK3 _ => ?_
  refine CJ.region ?_
  refine J.p (PR.move rfl) rfl ?_
  refine J.nil ?_
  refine EJ.thenN (hK3 ?_)
  refine CJ.cond rfl (fun h5 => ?_) (fun h5 => ?_)
  ·
    refine CJ.seq fun _ hK4 _ => ?_
    refine CJ.region ?_
    refine J.p (PR.move rfl) rfl ?_
    refine J.p (PR.assign rfl) rfl ?_
    refine J.nil ?_
    refine EJ.thenN (hK4 ?_)
    refine CJ.ret ?_
    refine EJ.thenR ?_
    refine EJ.ret1 rfl (Res.tmp rfl) fun w hH => ?_
    exact ⟨by rw [if_pos h5], hH⟩
  ·
    refine CJ.skip ?_
    refine EJ.thenN (hK2 ?_)
    refine CJ.seq fun _ hK5 _ => ?_
    refine CJ.region ?_
    refine J.p (PR.assign rfl) rfl ?_
    refine J.nil ?_
    refine EJ.thenN (hK5 ?_)
    refine CJ.ret ?_
    refine EJ.ret1 rfl (Res.tmp rfl) fun w hH => ?_
    exact ⟨by rw [if_neg (by rw [h5]; simp)], hH⟩
set_option maxRecDepth 10000 in
theorem first_c {B : World} {H0 H : HP} {L : List SA} {w : World} {qxs : Option Addr} {cxs : Nat} {xs : List Int}  (hxs : Ints H qxs xs) (hn : xs.length ≤ 1000) (hH : Hp B H0 H L w) :
    Calls Try.prog 74 [.slice qxs xs.length cxs].toArray w fun e w' => e = .returned (.int .i64 (firstOf xs)) ∧ Hp B H0 H L w' := by
  refine CJ.enter Try.func74 rfl 15 rfl rfl [(0, .slice qxs xs.length cxs)] rfl hH ?_
  clear hH
  refine CJ.seq fun _ hK1 _ => ?_
  refine CJ.region ?_
  refine J.p (PR.assign rfl) rfl ?_
  refine J.nil ?_
  refine EJ.thenN (hK1 ?_)
  refine CJ.seq fun _ hK2 _ => ?_
  refine CJ.seq fun _ hK3 _ => ?_
  refine CJ.region ?_
  refine J.p (PR.move rfl) rfl ?_
  refine J.p (PR.lenSlice u22 rfl rfl) rfl ?_
  refine J.p (PR.move rfl) rfl ?_
  refine J.nil ?_
  refine EJ.thenN (hK3 ?_)
  refine CJ.block ?_
  refine CJ.loopU (σ := Nat) (fun (k : Nat) => [(7, .int .i64 (k : Int))]) (fun (k : Nat) => H) (fun (k : Nat) => L) (fun (k : Nat) => k ≤ xs.length ∧ ∀ j, j < k → xs.getD j 0 = 0) (fun (k : Nat) => xs.length - k) 0 ⟨by omega, fun j hj => by omega⟩ ⟨rfl, trivial⟩ rfl rfl ?_
  rintro k hI _ hAg0
  have hk := hI.1
  refine CJ.seq fun _ hK4 _ => ?_
  refine CJ.region ?_
  refine J.p (PR.lss rfl rfl) rfl ?_
  refine J.nil ?_
  refine EJ.thenN (hK4 ?_)
  refine CJ.seq fun _ hK5 _ => ?_
  refine CJ.condD rfl (fun hc8 => ?_) (fun hc8 => ?_)
  ·
    refine CJ.skip ?_
    refine EJ.thenN (hK5 ?_)
    refine CJ.seq fun _ hK6 _ => ?_
    refine CJ.block ?_
    refine CJ.seq fun _ hK7 _ => ?_
    refine CJ.region ?_
    refine J.p (PR.idx1 u22 sz2 rfl rfl rfl (by omega) hxs.sm) rfl ?_
    refine J.p (PR.loadH rfl (hxs _ (by omega)) pl2) rfl ?_
    refine J.p (PR.assign rfl) rfl ?_
    refine J.nil ?_
    refine EJ.thenN (hK7 ?_)
    refine CJ.seq fun _ hK8 _ => ?_
    refine CJ.region ?_
    refine J.p (PR.move rfl) rfl ?_
    refine J.p (PR.neq rfl rfl) rfl ?_
    refine J.nil ?_
    refine EJ.thenN (hK8 ?_)
    refine CJ.condD rfl (fun hc12 => ?_) (fun hc12 => ?_)
    ·
      refine CJ.seq fun _ hK9 _ => ?_
      refine CJ.region ?_
      refine J.p (PR.move rfl) rfl ?_
      refine J.p (PR.assign rfl) rfl ?_
      refine J.nil ?_
      refine EJ.thenN (hK9 ?_)
      refine CJ.ret ?_
      refine EJ.inR ?_
      refine EJ.thenR ?_
      refine EJ.thenR ?_
      refine EJ.inR ?_
      refine EJ.thenR ?_
      refine EJ.ret1 rfl (Res.tmp rfl) fun w hH => ?_
      exact ⟨ri (firstOf_hit (by omega) hI.2 hc12).symm, hH⟩
    ·
      refine CJ.skip ?_
      refine EJ.inN ?_
      refine EJ.thenN (hK6 ?_)
      refine CJ.region ?_
      refine J.p (PR.add rfl rfl (by first | exact nw _ (by omega) | rfl)) rfl ?_
      refine J.p (PR.move rfl) rfl ?_
      refine J.nil ?_
      refine EJ.thenN ?_
      exact hAg0 (k + 1) ⟨by omega, upto hI.2 (Decidable.not_not.1 hc12)⟩ (by omega) 9 rfl rfl ⟨rfl, trivial⟩ rfl rfl
  ·
    refine CJ.exit ?_
    refine EJ.thenE ?_
    refine EJ.thenE ?_
    refine EJ.inE ?_
    refine EJ.thenN (hK2 ?_)
    refine CJ.seq fun _ hK10 _ => ?_
    refine CJ.region ?_
    refine J.p (PR.assign rfl) rfl ?_
    refine J.nil ?_
    refine EJ.thenN (hK10 ?_)
    refine CJ.ret ?_
    refine EJ.ret1 rfl (Res.tmp rfl) fun w hH => ?_
    exact ⟨ri (firstOf_miss (fun j hj => hI.2 j (by omega))).symm, hH⟩

def upd (out : List Int) (k n : Nat) : List Int := out.set k (out.getD k 0 + out.getD (k - n) 0)
def passE (n : Nat) : Nat → List Int → List Int
  | 0, out => out
  | c + 1, out => upd (passE n c out) (n + c) n
def passO (n m : Nat) : Nat → List Int → List Int
  | 0, out => out
  | c + 1, out => upd (passO n m c out) (m - c) n
def pass (m : Nat) (d : Int) (out : List Int) : List Int := if d.tmod 2 = 1 then passO d.toNat m (m + 1 - d.toNat) out else passE d.toNat (m + 1 - d.toNat) out
def serK (ds : List Int) (m : Nat) : Nat → List Int
  | 0 => (List.replicate (m + 1) 0).set 0 1
  | i + 1 => pass m (ds.getD i 0) (serK ds m i)
def series (ds : List Int) (m : Nat) : List Int := serK ds m ds.length
@[simp] theorem upd_length (out : List Int) (k n : Nat) : (upd out k n).length = out.length := by simp [upd]
@[simp] theorem passE_length (n c : Nat) (out : List Int) : (passE n c out).length = out.length := by induction c with | zero => rfl | succ c ih => simp [passE, ih]
@[simp] theorem passO_length (n m c : Nat) (out : List Int) : (passO n m c out).length = out.length := by induction c with | zero => rfl | succ c ih => simp [passO, ih]
@[simp] theorem pass_length (m : Nat) (d : Int) (out : List Int) : (pass m d out).length = out.length := by unfold pass; split <;> simp
@[simp] theorem serK_length (ds : List Int) (m i : Nat) : (serK ds m i).length = m + 1 := by induction i with | zero => simp [serK] | succ i ih => simp [serK, ih]
@[simp] theorem series_length (ds : List Int) (m : Nat) : (series ds m).length = m + 1 := by simp [series]
theorem getD_set_list (out : List Int) (k j : Nat) (v : Int) : (out.set k v).getD j 0 = if k = j ∧ k < out.length then v else out.getD j 0 := by
  rw [List.getD_eq_getElem?_getD, List.getD_eq_getElem?_getD, List.getElem?_set]
  by_cases h : k = j
  · subst h
    by_cases h2 : k < out.length
    · simp [h2]
    · simp [h2]
  · simp [h]
def In (X : Int) (a : List Int) : Prop := ∀ j, 0 ≤ a.getD j 0 ∧ a.getD j 0 ≤ X
theorem upd_in {a : List Int} {k n : Nat} {X M : Int} (h : In X a) (hk : a.getD k 0 ≤ M) (hM : 0 ≤ M) : In (X + M) (upd a k n) := by
  intro j
  unfold upd
  rw [getD_set_list]
  have h1 := h j
  have h2 := h k
  have h3 := h (k - n)
  split <;> omega
theorem upd_other {a : List Int} {k n j : Nat} (h : k ≠ j) : (upd a k n).getD j 0 = a.getD j 0 := by
  unfold upd
  rw [getD_set_list, if_neg (fun e => h e.1)]
theorem cmul_succ (c : Nat) (M : Int) : ((c + 1 : Nat) : Int) * M = c * M + M := by rw [Int.natCast_add, Int.add_mul]; simp
theorem passE_in {n : Nat} {out : List Int} {M : Int} (h : In M out) (hM : 0 ≤ M) : ∀ c, In (((c + 1 : Nat) : Int) * M) (passE n c out) ∧ ∀ j, n + c ≤ j → (passE n c out).getD j 0 ≤ M
  | 0 => ⟨by simpa [passE] using h, fun j _ => (h j).2⟩
  | c + 1 => by
    obtain ⟨h1, h2⟩ := passE_in h hM c
    refine ⟨?_, fun j hj => ?_⟩
    · rw [cmul_succ (c + 1)]
      exact upd_in h1 (h2 _ (Nat.le_refl _)) hM
    · rw [passE, upd_other (by omega)]
      exact h2 j (by omega)
theorem passO_in {n m : Nat} {out : List Int} {M : Int} (h : In M out) (hM : 0 ≤ M) : ∀ c, c ≤ m + 1 → In (((c + 1 : Nat) : Int) * M) (passO n m c out) ∧ ∀ j, j + c ≤ m → (passO n m c out).getD j 0 ≤ M
  | 0, _ => ⟨by simpa [passO] using h, fun j _ => (h j).2⟩
  | c + 1, hc => by
    obtain ⟨h1, h2⟩ := passO_in (n := n) (m := m) h hM c (by omega)
    refine ⟨?_, fun j hj => ?_⟩
    · rw [cmul_succ (c + 1)]
      exact upd_in h1 (h2 _ (by omega)) hM
    · rw [passO, upd_other (by omega)]
      exact h2 j (by omega)
theorem In.le {a : List Int} {X Y : Int} (h : In X a) (hXY : X ≤ Y) : In Y a := fun j => ⟨(h j).1, Int.le_trans (h j).2 hXY⟩
def cap : Nat → Int
  | 0 => 1
  | i + 1 => 41 * cap i
theorem cap_pos : ∀ i, 1 ≤ cap i
  | 0 => by simp [cap]
  | i + 1 => by have := cap_pos i; simp only [cap]; omega
theorem cap_le : ∀ i, i ≤ 8 → cap i ≤ 7984925229121 := by
  intro i hi
  have : i = 0 ∨ i = 1 ∨ i = 2 ∨ i = 3 ∨ i = 4 ∨ i = 5 ∨ i = 6 ∨ i = 7 ∨ i = 8 := by omega
  rcases this with rfl | rfl | rfl | rfl | rfl | rfl | rfl | rfl | rfl <;> decide
theorem pass_in {m : Nat} {d : Int} {out : List Int} {M : Int} (h : In M out) (hM : 0 ≤ M) (hm : m ≤ 40) (hd : 1 ≤ d) : In (41 * M) (pass m d out) := by
  have hb : ∀ c : Nat, c ≤ 40 → ((c + 1 : Nat) : Int) * M ≤ 41 * M := fun c hc => Int.mul_le_mul_of_nonneg_right (by omega) hM
  unfold pass
  split
  · exact (passO_in h hM _ (by omega)).1.le (hb _ (by omega))
  · exact (passE_in h hM _).1.le (hb _ (by omega))
theorem serK_in {ds : List Int} {m : Nat} (hm : m ≤ 40) (hd : ∀ j, j < ds.length → 1 ≤ ds.getD j 0) : ∀ i, i ≤ ds.length → In (cap i) (serK ds m i)
  | 0, _ => fun j => by
    simp only [serK]
    rw [getD_set_list]
    simp only [cap]
    split
    · omega
    · rw [List.getD_eq_getElem?_getD, List.getElem?_replicate]
      split <;> simp
  | i + 1, hi => pass_in (serK_in hm hd i (by omega)) (by have := cap_pos i; omega) hm (hd i (by omega))
theorem serE_bd {ds : List Int} {m i c : Nat} (hm : m ≤ 40) (hn : ds.length ≤ 8) (hd : ∀ j, j < ds.length → 1 ≤ ds.getD j 0) (hi : i < ds.length) (hc : c ≤ 40) : In 7984925229121 (passE (ds.getD i 0).toNat c (serK ds m i)) := by
  have h1 := cap_le (i + 1) (by omega)
  have h2 := cap_pos i
  have := (passE_in (n := (ds.getD i 0).toNat) (serK_in hm hd i (by omega)) (by omega) c).1.le (Int.mul_le_mul_of_nonneg_right (show ((c + 1 : Nat) : Int) ≤ 41 by omega) (show 0 ≤ cap i by omega))
  simp only [cap] at h1
  exact this.le (by omega)
theorem serO_bd {ds : List Int} {m i c : Nat} (hm : m ≤ 40) (hn : ds.length ≤ 8) (hd : ∀ j, j < ds.length → 1 ≤ ds.getD j 0) (hi : i < ds.length) (hc : c ≤ 40) (hcm : c ≤ m + 1) : In 7984925229121 (passO (ds.getD i 0).toNat m c (serK ds m i)) := by
  have h1 := cap_le (i + 1) (by omega)
  have h2 := cap_pos i
  have := (passO_in (n := (ds.getD i 0).toNat) (m := m) (serK_in hm hd i (by omega)) (by omega) c hcm).1.le (Int.mul_le_mul_of_nonneg_right (show ((c + 1 : Nat) : Int) ≤ 41 by omega) (show 0 ≤ cap i by omega))
  simp only [cap] at h1
  exact this.le (by omega)
theorem pass_even {m : Nat} {d : Int} {out : List Int} (h : ¬ d.tmod 2 = 1) : pass m d out = passE d.toNat (m + 1 - d.toNat) out := if_neg h
theorem pass_odd {m : Nat} {d : Int} {out : List Int} (h : d.tmod 2 = 1) : pass m d out = passO d.toNat m (m + 1 - d.toNat) out := if_pos h
theorem tmod_two {d : Int} (h : 0 ≤ d) : d.tmod 2 = 0 ∨ d.tmod 2 = 1 := by rw [Int.tmod_eq_emod_of_nonneg h]; omega
theorem isDeg_one {ds : List Int} (h : isDeg ds = true) : ∀ j, j < ds.length → 1 ≤ ds.getD j 0 ∧ ds.getD j 0 ≤ 12 := by
  intro j hj
  unfold isDeg at h
  rw [Bool.and_eq_true] at h
  have := List.all_eq_true.1 h.2 (ds.getD j 0) (by rw [List.getD_eq_getElem?_getD, List.getElem?_eq_getElem hj]; exact List.getElem_mem hj)
  rwa [Bool.and_eq_true, decide_eq_true_eq, decide_eq_true_eq] at this
theorem mk_series (m : Nat) : ∀ x, (List.replicate (m + 1) (0 : Int)).set 0 x = (List.replicate (m + 1) (0 : Int)).set 0 x := fun _ => rfl


def serOk (ds : List Int) (m : Int) : Bool := isDeg ds && (decide (0 ≤ m) && decide (m ≤ 40))
def serF (ds : List Int) (m : Int) : List Int := if serOk ds m then series ds m.toNat else []
def serCode (ds : List Int) (m : Int) : Int := if isDeg ds then (if decide (0 ≤ m) && decide (m ≤ 40) then 0 else 2) else 1


theorem serF_len (ds : List Int) (m : Int) : (serF ds m).length ≤ 41 := by
  unfold serF serOk
  split
  · rename_i h
    have h2 := (Bool.and_eq_true_iff.1 h).2
    have : 0 ≤ m ∧ m ≤ 40 := by simpa using h2
    rw [series_length]; omega
  · simp
theorem codes_zero {a b : Bool} (h : (if a then 1 else if b then 2 else 0 : Int) = 0) : a = false ∧ b = false := by
  cases a <;> cases b <;> simp at h ⊢
theorem ser_bad {ds : List Int} {m : Int} (h : (if (!isDeg ds) then 1 else if (!(decide (0 ≤ m) && decide (m ≤ 40))) then 2 else 0 : Int) ≠ 0) :
    serF ds m = [] ∧ (if (!isDeg ds) then 1 else if (!(decide (0 ≤ m) && decide (m ≤ 40))) then 2 else 0 : Int) = serCode ds m := by
  unfold serF serOk serCode
  cases h1 : isDeg ds <;> cases h2 : (decide (0 ≤ m) && decide (m ≤ 40)) <;> simp_all
theorem codes_two {a b : Bool} : firstOf [if a then 1 else 0, if b then 2 else 0] = if a then 1 else if b then 2 else 0 := by
  rw [firstOf_two]
  cases a <;> cases b <;> rfl

end Go.Proofs.Ytpojpokldncglaa.G
