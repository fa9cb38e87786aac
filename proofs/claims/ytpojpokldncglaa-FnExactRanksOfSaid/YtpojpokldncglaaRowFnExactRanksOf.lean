/- The row: the law answers true whatever the input, and the input reads as it did. No condition. -/
import Derived.Test.YtpojpokldncglaaRows
import Derived.Test.YtpojpokldncglaaProg
import Derived.WalkKit
import Derived.KernelRfl
import Derived.JoinedOf
import Derived.Maps.AppendAt
import Derived.Still
import Derived.ProofKit
import Derived.OpenShut
import Derived.StillTail
import Derived.Deep.Upon
import Derived.WalkSpells
import Derived.Maps.Range
import Derived.DeepKeys4
import Derived.ChangeOld
import Derived.Below
import Derived.SizedLaws
import Derived.Test.YtpojpokldncglaaPRnkf
set_option linter.unusedVariables false
set_option linter.unusedSimpArgs false
namespace Go.Proofs.Ytpojpokldncglaa.G
open Go Go.RowKit
def mxT (m r : List Int) (x : Int) : Nat → Int
  | 0 => x
  | j + 1 => if m.getD j 0 = 0 then mxT m r x j else max (mxT m r x j) (r.getD j 0 + 1)
def mxF (ts : List Term) (r : List Int) : Nat → Int
  | 0 => 1
  | k + 1 => mxT (tm ts k).mono r (mxF ts r k) 8
def okT (m r : List Int) (n : Nat) : Prop := ∀ j, j < n → m.getD j 0 ≠ 0 → r.getD j 0 ≠ 0
def okF (ts : List Term) (r : List Int) (k : Nat) : Prop := ∀ i, i < k → okT (tm ts i).mono r 8
instance (m r : List Int) (n : Nat) : Decidable (okT m r n) := Nat.decidableBallLT n _
instance (ts : List Term) (r : List Int) (k : Nat) : Decidable (okF ts r k) := Nat.decidableBallLT k _
def rkF (ts : List Term) (r : List Int) : Int := if okF ts r ts.length then mxF ts r ts.length else 0
def stepR (fs : List (List Term)) (r : List Int) (i : Nat) : List Int := if r.getD i 0 = 0 then r.set i (rkF (fm fs i) r) else r
def inR (fs : List (List Term)) (r : List Int) : Nat → List Int
  | 0 => r
  | i + 1 => stepR fs (inR fs r i) i
def rndR (fs : List (List Term)) (n : Nat) : Nat → List Int
  | 0 => List.replicate n 0
  | t + 1 => inR fs (rndR fs n t) n
theorem mxT_congr {m r r' : List Int} {x : Int} : ∀ n : Nat, (∀ j, j < n → m.getD j 0 ≠ 0 → r.getD j 0 = r'.getD j 0) → mxT m r x n = mxT m r' x n
  | 0, _ => rfl
  | n + 1, h => by
    simp only [mxT]
    rw [mxT_congr n fun j hj => h j (by omega)]
    by_cases e : m.getD n 0 = 0
    · rw [if_pos e, if_pos e]
    · rw [if_neg e, if_neg e, h n (by omega) e]
theorem mxF_congr {ts : List Term} {r r' : List Int} : ∀ k : Nat, (∀ i, i < k → ∀ j, j < 8 → (tm ts i).mono.getD j 0 ≠ 0 → r.getD j 0 = r'.getD j 0) → mxF ts r k = mxF ts r' k
  | 0, _ => rfl
  | k + 1, h => by
    simp only [mxF]
    rw [mxF_congr k fun i hi => h i (by omega), mxT_congr 8 (h k (by omega))]
theorem mxT_bd {m r : List Int} {x M : Int} (hr : ∀ j, 0 ≤ r.getD j 0 ∧ r.getD j 0 ≤ M) (hx : 1 ≤ x ∧ x ≤ M + 1) : ∀ n : Nat, 1 ≤ mxT m r x n ∧ mxT m r x n ≤ M + 1
  | 0 => hx
  | n + 1 => by
    have h1 := mxT_bd hr hx n (m := m)
    have h2 := hr n
    simp only [mxT]
    split <;> omega
theorem mxF_bd {ts : List Term} {r : List Int} {M : Int} (hr : ∀ j, 0 ≤ r.getD j 0 ∧ r.getD j 0 ≤ M) (hM : 0 ≤ M) : ∀ k : Nat, 1 ≤ mxF ts r k ∧ mxF ts r k ≤ M + 1
  | 0 => by simp only [mxF]; omega
  | k + 1 => mxT_bd hr (mxF_bd hr hM k) 8
theorem rkF_bd {ts : List Term} {r : List Int} {M : Int} (hr : ∀ j, 0 ≤ r.getD j 0 ∧ r.getD j 0 ≤ M) (hM : 0 ≤ M) : 0 ≤ rkF ts r ∧ rkF ts r ≤ M + 1 := by
  have := mxF_bd (ts := ts) hr hM ts.length
  unfold rkF
  split <;> omega
theorem getD_set {r : List Int} {i j : Nat} {v : Int} : (r.set i v).getD j 0 = if i = j ∧ i < r.length then v else r.getD j 0 := by
  rw [List.getD_eq_getElem?_getD, List.getD_eq_getElem?_getD, List.getElem?_set]
  by_cases e : i = j
  · subst e
    by_cases h : i < r.length
    · rw [if_pos rfl, if_pos h, if_pos ⟨rfl, h⟩]; rfl
    · rw [if_pos rfl, if_neg h, if_neg fun x => h x.2, List.getElem?_eq_none (by omega)]
  · rw [if_neg e, if_neg fun x => e x.1]
theorem okF_iff {ts : List Term} {r : List Int} : rkF ts r ≠ 0 → okF ts r ts.length := fun h => by
  unfold rkF at h
  by_cases e : okF ts r ts.length
  · exact e
  · rw [if_neg e] at h; exact absurd rfl h
theorem rkF_ok {ts : List Term} {r : List Int} (h : okF ts r ts.length) : rkF ts r = mxF ts r ts.length := if_pos h
theorem rkF_no {ts : List Term} {r : List Int} {i j : Nat} (hi : i < ts.length) (hj : j < 8) (h1 : (tm ts i).mono.getD j 0 ≠ 0) (h2 : r.getD j 0 = 0) : rkF ts r = 0 := if_neg fun h => h i hi j hj h1 h2
theorem rkF_set {ts : List Term} {r : List Int} {i : Nat} {v : Int} (h0 : r.getD i 0 = 0) (h : rkF ts r ≠ 0) : rkF ts (r.set i v) = rkF ts r := by
  have ho := okF_iff h
  have hc : ∀ k, k < ts.length → ∀ j, j < 8 → (tm ts k).mono.getD j 0 ≠ 0 → (r.set i v).getD j 0 = r.getD j 0 := fun k hk j hj hm => by
    rw [getD_set, if_neg]
    rintro ⟨rfl, _⟩
    exact ho k hk i hj hm h0
  have ho' : okF ts (r.set i v) ts.length := fun k hk j hj hm => by rw [hc k hk j hj hm]; exact ho k hk j hj hm
  rw [rkF_ok ho, rkF_ok ho', mxF_congr _ hc]
structure RkOk (fs : List (List Term)) (n : Nat) (M : Int) (r : List Int) : Prop where
  len : r.length = n
  bd : ∀ j, 0 ≤ r.getD j 0 ∧ r.getD j 0 ≤ M
  is : ∀ i, r.getD i 0 ≠ 0 → rkF (fm fs i) r = r.getD i 0
theorem RkOk.nn {fs : List (List Term)} {n : Nat} {M : Int} {r : List Int} (h : RkOk fs n M r) : 0 ≤ M := by have := h.bd 0; omega
theorem RkOk.start (fs : List (List Term)) (n : Nat) : RkOk fs n 0 (List.replicate n 0) := by
  have h0 : ∀ j, (List.replicate n (0 : Int)).getD j 0 = 0 := fun j => by
    rw [List.getD_eq_getElem?_getD, List.getElem?_replicate]
    split <;> rfl
  exact ⟨by simp, fun j => by rw [h0]; omega, fun i h => absurd (h0 i) h⟩
theorem RkOk.step {fs : List (List Term)} {n : Nat} {M : Int} {r : List Int} (h : RkOk fs n M r) (i : Nat) : RkOk fs n (M + 1) (stepR fs r i) := by
  unfold stepR
  split
  · rename_i h0
    have hb := rkF_bd (ts := fm fs i) h.bd h.nn
    refine ⟨by rw [List.length_set]; exact h.len, fun j => ?_, fun k hk => ?_⟩
    · rw [getD_set]; have := h.bd j; split <;> omega
    · rw [getD_set] at hk ⊢
      by_cases e : i = k ∧ i < r.length
      · obtain ⟨rfl, hl⟩ := e
        rw [if_pos ⟨rfl, hl⟩] at hk ⊢
        exact rkF_set h0 hk
      · rw [if_neg e] at hk ⊢
        have := h.is k hk
        rw [rkF_set h0 (by rw [this]; exact hk), this]
  · exact ⟨h.len, fun j => by have := h.bd j; omega, h.is⟩
theorem RkOk.mono {fs : List (List Term)} {n : Nat} {M M' : Int} {r : List Int} (h : RkOk fs n M r) (hM : M ≤ M') : RkOk fs n M' r := ⟨h.len, fun j => by have := h.bd j; omega, h.is⟩
theorem RkOk.inR {fs : List (List Term)} {n : Nat} {M : Int} {r : List Int} (h : RkOk fs n M r) : ∀ i : Nat, RkOk fs n (M + i) (G.inR fs r i)
  | 0 => h.mono (by omega)
  | i + 1 => ((RkOk.inR h i).step i).mono (by omega)
theorem RkOk.rnd (fs : List (List Term)) (n : Nat) : ∀ t : Nat, RkOk fs n ((t * n : Nat) : Int) (rndR fs n t)
  | 0 => (RkOk.start fs n).mono (by omega)
  | t + 1 => ((RkOk.rnd fs n t).inR n).mono (by rw [Nat.succ_mul]; omega)
theorem stepR_again {fs : List (List Term)} {n : Nat} {M : Int} {r : List Int} (h : RkOk fs n M r) {i : Nat} (hi : i < n) (ho : okF (fm fs i) r (fm fs i).length) : r.set i (mxF (fm fs i) r (fm fs i).length) = stepR fs r i := by
  unfold stepR
  rw [← rkF_ok ho]
  split
  · rfl
  · rename_i h0
    rw [h.is i h0]
    apply List.ext_getElem (by simp)
    intro j h1 h2
    rw [List.getElem_set]
    split
    · rename_i e; subst e; rw [List.getD_eq_getElem?_getD, List.getElem?_eq_getElem h2]; rfl
    · rfl
theorem stepR_not {fs : List (List Term)} {r : List Int} {i : Nat} (ho : ¬ okF (fm fs i) r (fm fs i).length) : r = stepR fs r i := by
  unfold stepR
  split
  · rename_i h0
    rw [show rkF (fm fs i) r = 0 from if_neg ho]
    apply List.ext_getElem (by simp)
    intro j h1 h2
    rw [List.getElem_set]
    split
    · rename_i e; subst e; rw [List.getD_eq_getElem?_getD, List.getElem?_eq_getElem h1] at h0; exact h0
    · rfl
  · rfl
def rnkR (ds : List Int) (fs : List (List Term)) : List Int := rndR fs ds.length ds.length
def rnkOk (ds : List Int) (fs : List (List Term)) : Bool := (rnkR ds fs).all fun x => decide (x ≠ 0)
def rnkV (ds : List Int) (fs : List (List Term)) : List Int := if isAlg ds fs && rnkOk ds fs then rnkR ds fs else []
def rnkC (ds : List Int) (fs : List (List Term)) : Int := if isAlg ds fs then (if rnkOk ds fs then 0 else 5) else 1
theorem mxT_more {m r : List Int} {x : Int} {n : Nat} (hz : ∀ j, n ≤ j → m.getD j 0 = 0) : ∀ d : Nat, mxT m r x (n + d) = mxT m r x n
  | 0 => rfl
  | d + 1 => by
    show (if m.getD (n + d) 0 = 0 then mxT m r x (n + d) else max (mxT m r x (n + d)) (r.getD (n + d) 0 + 1)) = _
    rw [if_pos (hz _ (by omega)), mxT_more hz d]
theorem mxT_end {m r : List Int} {x : Int} {n : Nat} (hn : n ≤ 8) (hz : ∀ j, n ≤ j → m.getD j 0 = 0) : mxT m r x 8 = mxT m r x n := by
  have := mxT_more (r := r) (x := x) hz (8 - n)
  rwa [show n + (8 - n) = 8 by omega] at this
theorem okT_end {m r : List Int} {n : Nat} (hz : ∀ j, n ≤ j → m.getD j 0 = 0) (h : okT m r n) : okT m r 8 := fun j hj hm => by
  rcases Nat.lt_or_ge j n with h1 | h1
  · exact h j h1 hm
  · exact absurd (hz j h1) hm
theorem okT_zero (m r : List Int) : okT m r 0 := fun j hj => by omega
theorem okF_zero (ts : List Term) (r : List Int) : okF ts r 0 := fun j hj => by omega
theorem okT_skip {m r : List Int} {j : Nat} (h : okT m r j) (h0 : m.getD j 0 = 0) : okT m r (j + 1) := fun i hi hm => by
  by_cases e : i = j
  · subst e; exact absurd h0 hm
  · exact h i (by omega) hm
theorem okT_succ {m r : List Int} {j : Nat} (h : okT m r j) (h0 : r.getD j 0 ≠ 0) : okT m r (j + 1) := fun i hi hm => by
  by_cases e : i = j
  · subst e; exact h0
  · exact h i (by omega) hm
theorem okF_succ {ts : List Term} {r : List Int} {k : Nat} (h : okF ts r k) (h0 : okT (tm ts k).mono r 8) : okF ts r (k + 1) := fun i hi => by
  by_cases e : i = k
  · subst e; exact h0
  · exact h i (by omega)
theorem okF_iff2 {ts : List Term} {r : List Int} {k : Nat} : okF ts r (k + 1) ↔ okF ts r k ∧ okT (tm ts k).mono r 8 := ⟨fun h => ⟨fun i hi => h i (by omega), h k (by omega)⟩, fun h => okF_succ h.1 h.2⟩
theorem okT_iff0 {m r : List Int} {j : Nat} (h0 : m.getD j 0 = 0) : okT m r (j + 1) ↔ okT m r j := ⟨fun h i hi => h i (by omega), fun h => okT_skip h h0⟩
theorem okT_iff1 {m r : List Int} {j : Nat} (h0 : m.getD j 0 ≠ 0) : okT m r (j + 1) ↔ okT m r j ∧ r.getD j 0 ≠ 0 := ⟨fun h => ⟨fun i hi => h i (by omega), h j (by omega) h0⟩, fun h => okT_succ h.1 h.2⟩
theorem mxT_skip {m r : List Int} {x : Int} {j : Nat} (h0 : m.getD j 0 = 0) : mxT m r x j = mxT m r x (j + 1) := by simp only [mxT]; rw [if_pos h0]
theorem mxT_go {m r : List Int} {x : Int} {j : Nat} (h0 : m.getD j 0 ≠ 0) : (if r.getD j 0 + 1 > mxT m r x j then r.getD j 0 + 1 else mxT m r x j) = mxT m r x (j + 1) := by
  simp only [mxT]
  rw [if_neg h0]
  split <;> omega
theorem rnk_bad {ds : List Int} {fs : List (List Term)} {k : Nat} (hk : k < (rnkR ds fs).length) (h : (rnkR ds fs).getD k 0 = 0) : rnkOk ds fs = false := List.all_eq_false.2 ⟨(rnkR ds fs).getD k 0, by rw [List.getD_eq_getElem?_getD, List.getElem?_eq_getElem hk]; exact List.getElem_mem hk, by rw [h]; simp⟩
theorem rnk_good {ds : List Int} {fs : List (List Term)} (h : ∀ k, k < (rnkR ds fs).length → (rnkR ds fs).getD k 0 ≠ 0) : rnkOk ds fs = true := List.all_eq_true.2 fun x hx => by
  obtain ⟨k, hk, rfl⟩ := List.mem_iff_getElem.1 hx
  have := h k hk
  rw [List.getD_eq_getElem?_getD, List.getElem?_eq_getElem hk] at this
  simpa using this
theorem rnkR_len (ds : List Int) (fs : List (List Term)) : (rnkR ds fs).length = ds.length := (RkOk.rnd fs ds.length ds.length).len
theorem form_zero {ds : List Int} {ts : List Term} (hw : Wfs ts) (hf : isForm ds ts = true) {i : Nat} (hi : i < ts.length) : ∀ j, ds.length ≤ j → (tm ts i).mono.getD j 0 = 0 := fun j hj => by
  have hm : Mono (tm ts i).mono := (hw _ (tm_mem hi)).mono
  rcases Nat.lt_or_ge j 8 with h8 | h8
  · have h1 := isMono_le (good_facs (isForm_at hf hi)).1 h8
    rw [most_ge (by omega)] at h1
    have := (hm.bd j).1
    omega
  · exact getD_ge (by rw [hm.len]; omega)
theorem rnk_has {ds : List Int} {fs : List (List Term)} (h : ((rndR fs ds.length ds.length).any fun y => decide (0 = y)) = true) : rnkOk ds fs = false := by
  obtain ⟨x, hx, h0⟩ := List.any_eq_true.1 h
  exact List.all_eq_false.2 ⟨x, hx, by have := of_decide_eq_true h0; simp [← this]⟩
theorem rnk_hasnt {ds : List Int} {fs : List (List Term)} (h : ((rndR fs ds.length ds.length).any fun y => decide (0 = y)) = false) : rnkOk ds fs = true := List.all_eq_true.2 fun x hx => by
  have := List.any_eq_false.1 h x hx
  simp only [decide_eq_true_eq] at this ⊢
  exact fun e => this e.symm
theorem rnkV_len (ds : List Int) (fs : List (List Term)) : (rnkV ds fs).length ≤ 8 := by
  unfold rnkV
  split
  · rename_i h
    rw [rnkR_len]
    have h1 := (Bool.and_eq_true_iff.1 h).1
    unfold isAlg at h1
    simp only [Bool.and_eq_true] at h1
    exact isDeg_len h1.1.1.1
  · simp
end Go.Proofs.Ytpojpokldncglaa.G
namespace Go.Proofs.Ytpojpokldncglaa.G
open Go Go.RowKit
def rowJ (m : List Int) (f : Int) (r : List Int) : Nat → List Int
  | 0 => r
  | j + 1 => if m.getD j 0 = 1 then (rowJ m f r j).set j f else rowJ m f r j
def rowK (ts : List Term) (n : Nat) : Nat → List Int
  | 0 => List.replicate n 0
  | k + 1 => if wrdAt ts k = 1 then rowJ (tm ts k).mono (tm ts k).fac (rowK ts n k) n else rowK ts n k
@[simp] theorem rowJ_len (m : List Int) (f : Int) (r : List Int) : ∀ j : Nat, (rowJ m f r j).length = r.length
  | 0 => rfl
  | j + 1 => by
    simp only [rowJ]
    split
    · rw [List.length_set, rowJ_len m f r j]
    · exact rowJ_len m f r j
@[simp] theorem rowK_len (ts : List Term) (n : Nat) : ∀ k : Nat, (rowK ts n k).length = n
  | 0 => by simp [rowK]
  | k + 1 => by
    simp only [rowK]
    split
    · rw [rowJ_len, rowK_len ts n k]
    · exact rowK_len ts n k
def algC (ds : List Int) (fs : List (List Term)) : Int := if isAlg ds fs then 0 else 1
end Go.Proofs.Ytpojpokldncglaa.G
namespace Go.Proofs.Ytpojpokldncglaa.G
open Go Go.RowKit
namespace Xy
theorem u22 : Try.prog.underlying 22 = some (TypeDesc.slice 2) := by kernel_rfl
theorem u29 : Try.prog.underlying 29 = some (TypeDesc.struct #[{ name := "Terms", type := 27, offset := 0, embedded := false, tag := "", pkgPath := "", byteOffset := 0 }]) := by kernel_rfl
theorem u39 : Try.prog.underlying 39 = some (TypeDesc.slice 29) := by kernel_rfl
theorem u41 : Try.prog.underlying 41 = some (TypeDesc.struct #[{ name := "Degrees", type := 22, offset := 0, embedded := false, tag := "", pkgPath := "", byteOffset := 0 }, { name := "Images", type := 39, offset := 1, embedded := false, tag := "", pkgPath := "", byteOffset := 24 }]) := by kernel_rfl
theorem sz22 : Size Try.prog 22 1 := by unfold Size; kernel_rfl
theorem sz29 : Size Try.prog 29 1 := by unfold Size; kernel_rfl
theorem sz39 : Size Try.prog 39 1 := by unfold Size; kernel_rfl
theorem ze29 : Zero Try.prog 29 [.slice none 0 0] := by unfold Zero; kernel_rfl
theorem pl22 : Plain Try.prog 22 := ⟨_, u22, rfl⟩
theorem pl39 : Plain Try.prog 39 := ⟨_, u39, rfl⟩
theorem ag29 : Agg Try.prog 29 1 := ⟨_, u29, rfl, by kernel_rfl⟩
theorem ag41 : Agg Try.prog 41 2 := ⟨_, u41, rfl, by kernel_rfl⟩
theorem fn89 : Fn Try.prog 89 := ⟨_, Try.func89, by kernel_rfl, rfl⟩
theorem fn99 : Fn Try.prog 99 := ⟨_, Try.func99, by kernel_rfl, rfl⟩
theorem foll0 : Try.prog.follows .mixedOrders = true := by kernel_rfl
end Xy
open Xy
theorem forms_nil (H : HP) : Forms H none [] := fun i hi => by simp at hi
theorem ClR.le {B : World} {H0 H H' : HP} {g : Nat} {cap : Array Value} {S : List Int → Prop} {p : List Int → Bool} (h : ClR B H0 H g cap S p) (hle : Le H H') : ClR B H0 H' g cap S p := fun H2 L w q c x h2 => h H2 L w q c x (hle.trans h2)
theorem codeA_nil (ds : List Int) (fs : List (List Term)) : codeA ds fs [] = algC ds fs := by unfold codeA algC; simp
theorem algC_ne {ds : List Int} {fs : List (List Term)} (h : algC ds fs ≠ 0) : isAlg ds fs = false := by
  unfold algC at h
  cases e : isAlg ds fs with
  | false => rfl
  | true => rw [e, if_pos rfl] at h; exact absurd rfl h
theorem algC_eq {ds : List Int} {fs : List (List Term)} (h : ¬ algC ds fs ≠ 0) : isAlg ds fs = true := by
  unfold algC at h
  cases e : isAlg ds fs with
  | false => rw [e] at h; exact absurd (by decide) h
  | true => rfl
theorem algC_o {ds : List Int} {fs : List (List Term)} (h : isAlg ds fs = false) : 1 = algC ds fs := by unfold algC; rw [h]; rfl
end Go.Proofs.Ytpojpokldncglaa.G
namespace Go.Proofs.Ytpojpokldncglaa.G
open Go Go.RowKit
namespace Xz
theorem u2 : Try.prog.underlying 2 = some (TypeDesc.int .i64) := by kernel_rfl
theorem u22 : Try.prog.underlying 22 = some (TypeDesc.slice 2) := by kernel_rfl
theorem u27 : Try.prog.underlying 27 = some (TypeDesc.slice 88) := by kernel_rfl
theorem u29 : Try.prog.underlying 29 = some (TypeDesc.struct #[{ name := "Terms", type := 27, offset := 0, embedded := false, tag := "", pkgPath := "", byteOffset := 0 }]) := by kernel_rfl
theorem u39 : Try.prog.underlying 39 = some (TypeDesc.slice 29) := by kernel_rfl
theorem u41 : Try.prog.underlying 41 = some (TypeDesc.struct #[{ name := "Degrees", type := 22, offset := 0, embedded := false, tag := "", pkgPath := "", byteOffset := 0 }, { name := "Images", type := 39, offset := 1, embedded := false, tag := "", pkgPath := "", byteOffset := 24 }]) := by kernel_rfl
theorem u5 : Try.prog.underlying 5 = some (TypeDesc.int .u8) := by kernel_rfl
theorem u86 : Try.prog.underlying 86 = some (TypeDesc.array 8 5) := by kernel_rfl
theorem u88 : Try.prog.underlying 88 = some (TypeDesc.struct #[{ name := "Monomial", type := 86, offset := 0, embedded := false, tag := "", pkgPath := "", byteOffset := 0 }, { name := "Factor", type := 2, offset := 8, embedded := false, tag := "", pkgPath := "", byteOffset := 8 }]) := by kernel_rfl
theorem sz2 : Size Try.prog 2 1 := by unfold Size; kernel_rfl
theorem sz22 : Size Try.prog 22 1 := by unfold Size; kernel_rfl
theorem sz27 : Size Try.prog 27 1 := by unfold Size; kernel_rfl
theorem sz29 : Size Try.prog 29 1 := by unfold Size; kernel_rfl
theorem sz39 : Size Try.prog 39 1 := by unfold Size; kernel_rfl
theorem sz5 : Size Try.prog 5 1 := by unfold Size; kernel_rfl
theorem sz86 : Size Try.prog 86 8 := by unfold Size; kernel_rfl
theorem sz88 : Size Try.prog 88 9 := by unfold Size; kernel_rfl
theorem by2 : Bytes Try.prog 2 8 := by unfold Bytes; kernel_rfl
theorem ze2 : Zero Try.prog 2 [.int .i64 0] := by unfold Zero; kernel_rfl
theorem ze29 : Zero Try.prog 29 [.slice none 0 0] := by unfold Zero; kernel_rfl
theorem ze88 : Zero Try.prog 88 [.int .u8 0, .int .u8 0, .int .u8 0, .int .u8 0, .int .u8 0, .int .u8 0, .int .u8 0, .int .u8 0, .int .i64 0] := by unfold Zero; kernel_rfl
theorem pl2 : Plain Try.prog 2 := ⟨_, u2, rfl⟩
theorem pl22 : Plain Try.prog 22 := ⟨_, u22, rfl⟩
theorem pl27 : Plain Try.prog 27 := ⟨_, u27, rfl⟩
theorem pl39 : Plain Try.prog 39 := ⟨_, u39, rfl⟩
theorem pl5 : Plain Try.prog 5 := ⟨_, u5, rfl⟩
theorem ag29 : Agg Try.prog 29 1 := ⟨_, u29, rfl, by kernel_rfl⟩
theorem ag41 : Agg Try.prog 41 2 := ⟨_, u41, rfl, by kernel_rfl⟩
theorem ag86 : Agg Try.prog 86 8 := ⟨_, u86, rfl, by kernel_rfl⟩
theorem ag88 : Agg Try.prog 88 9 := ⟨_, u88, rfl, by kernel_rfl⟩
theorem fn105 : Fn Try.prog 105 := ⟨_, Try.func105, by kernel_rfl, rfl⟩
theorem fn106 : Fn Try.prog 106 := ⟨_, Try.func106, by kernel_rfl, rfl⟩
theorem fn157 : Fn Try.prog 157 := ⟨_, Try.func157, by kernel_rfl, rfl⟩
theorem fn89 : Fn Try.prog 89 := ⟨_, Try.func89, by kernel_rfl, rfl⟩
theorem fn99 : Fn Try.prog 99 := ⟨_, Try.func99, by kernel_rfl, rfl⟩
end Xz
open Xz
def idxE (xs : List Int) (x : Int) : Int := if xs.any (fun y => decide (x = y)) then (xs.findIdx (fun y => decide (x = y)) : Int) else -1
theorem idxE_hit {xs : List Int} {x : Int} {k : Nat} (hk : k < xs.length) (h : ∀ j, j < k → ¬ x = xs.getD j 0) (hp : x = xs.getD k 0) : (k : Int) = idxE xs x := by
  have g : ∀ j (hj : j < xs.length), xs.getD j 0 = xs[j] := fun j hj => by rw [List.getD_eq_getElem?_getD, List.getElem?_eq_getElem hj]; rfl
  unfold idxE
  rw [if_pos (List.any_eq_true.2 ⟨xs[k], List.getElem_mem hk, by rw [← g k hk]; exact decide_eq_true hp⟩)]
  have : xs.findIdx (fun y => decide (x = y)) = k := by
    rw [List.findIdx_eq hk]
    exact ⟨by rw [← g k hk]; exact decide_eq_true hp, fun j hj => by rw [← g j (by omega)]; exact decide_eq_false (h j hj)⟩
  rw [this]
theorem idxE_miss {xs : List Int} {x : Int} (h : ∀ j, j < xs.length → ¬ x = xs.getD j 0) : (-1 : Int) = idxE xs x := by
  have g : ∀ j (hj : j < xs.length), xs.getD j 0 = xs[j] := fun j hj => by rw [List.getD_eq_getElem?_getD, List.getElem?_eq_getElem hj]; rfl
  unfold idxE
  rw [if_neg]
  intro ha
  obtain ⟨y, hy, hp⟩ := List.any_eq_true.1 ha
  obtain ⟨j, hj, rfl⟩ := List.mem_iff_getElem.1 hy
  exact h j hj (by rw [g j hj]; exact of_decide_eq_true hp)
theorem idxE_ge (xs : List Int) (x : Int) : decide (idxE xs x ≥ 0) = xs.any fun y => decide (x = y) := by
  unfold idxE
  cases h : xs.any (fun y => decide (x = y)) with
  | true => rw [if_pos rfl]; exact decide_eq_true (by omega)
  | false => rw [if_neg (by simp)]; exact decide_eq_false (by omega)
set_option maxRecDepth 10000 in
theorem IndexI_c {B : World} {H0 H : HP} {L : List SA} {w : World} {qxs : Option Addr} {cxs : Nat} {xs : List Int} {x : Int}  (hxs : Ints H qxs xs) (hn : xs.length ≤ 9223372036854775807) (hH : Hp B H0 H L w) :
    Calls Try.prog 157 [.slice qxs xs.length cxs, .int .i64 x].toArray w fun e w' => e = .returned (.int .i64 (idxE xs x)) ∧ Hp B H0 H L w' := by
  refine CJ.enter Try.func157 rfl 19 rfl rfl [(0, .slice qxs xs.length cxs), (1, .int .i64 x)] rfl hH ?_
  clear hH
  refine CJ.seq fun _ hK1 _ => ?_
  refine CJ.region ?_
  refine J.p (PR.assign rfl) rfl ?_
  refine J.nil ?_
  refine EJ.thenN (hK1 ?_)
  refine CJ.seq fun _ hK2 _ => ?_
  refine CJ.seq fun _ hK3 _ => ?_
  refine CJ.region ?_
  refine J.p (PR.move rfl) rfl ?_
  refine J.p (PR.lenSlice u22 rfl rfl) rfl ?_
  refine J.p (PR.move rfl) rfl ?_
  refine J.nil ?_
  refine EJ.thenN (hK3 ?_)
  refine CJ.block ?_
  refine CJ.loopU (σ := Nat) (fun (k : Nat) => [(8, .int .i64 (k : Int))]) (fun (k : Nat) => H) (fun (k : Nat) => L) (fun (k : Nat) => k ≤ xs.length ∧ ∀ j, j < k → ¬ x = xs.getD j 0) (fun (k : Nat) => xs.length - k) 0 ⟨by omega, fun j hj => by omega⟩ ⟨rfl, trivial⟩ rfl rfl ?_
  rintro k ⟨hk, hI⟩ _ hAg0
  refine CJ.seq fun _ hK4 _ => ?_
  refine CJ.region ?_
  refine J.p (PR.lss rfl rfl) rfl ?_
  refine J.nil ?_
  refine EJ.thenN (hK4 ?_)
  refine CJ.seq fun _ hK5 _ => ?_
  refine CJ.condD rfl (fun hc9 => ?_) (fun hc9 => ?_)
  ·
    refine CJ.skip ?_
    refine EJ.thenN (hK5 ?_)
    refine CJ.seq fun _ hK6 _ => ?_
    refine CJ.block ?_
    refine CJ.seq fun _ hK7 _ => ?_
    refine CJ.region ?_
    refine J.p (PR.move rfl) rfl ?_
    refine J.p (PR.assign rfl) rfl ?_
    refine J.nil ?_
    refine EJ.thenN (hK7 ?_)
    refine CJ.seq fun _ hK8 _ => ?_
    refine CJ.region ?_
    refine J.p (PR.move rfl) rfl ?_
    refine J.p (PR.move rfl) rfl ?_
    refine J.p (PR.move rfl) rfl ?_
    refine J.p (PR.idx1 u22 sz2 rfl rfl rfl (by omega) hxs.sm) rfl ?_
    refine J.p (PR.loadH rfl (hxs _ (by omega)) pl2) rfl ?_
    refine J.p (PR.eql rfl rfl) rfl ?_
    refine J.nil ?_
    refine EJ.thenN (hK8 ?_)
    refine CJ.condD rfl (fun h16 => ?_) (fun h16 => ?_)
    ·
      refine CJ.seq fun _ hK9 _ => ?_
      refine CJ.region ?_
      refine J.p (PR.move rfl) rfl ?_
      refine J.p (PR.assign rfl) rfl ?_
      refine J.nil ?_
      refine EJ.thenN (hK9 ?_)
      refine CJ.ret ?_
      refine EJ.inR ?_
      refine EJ.thenR ?_
      refine EJ.thenR ?_
      refine EJ.inR ?_
      refine EJ.thenR ?_
      refine EJ.ret1 rfl (Res.tmp rfl) fun w hH => ?_
      exact ⟨ri (idxE_hit (by omega) hI h16), hH⟩
    ·
      refine CJ.skip ?_
      refine EJ.inN ?_
      refine EJ.thenN (hK6 ?_)
      refine CJ.region ?_
      refine J.p (PR.add rfl rfl (by first | exact nw _ (by omega) | rfl)) rfl ?_
      refine J.p (PR.move rfl) rfl ?_
      refine J.nil ?_
      refine EJ.thenN ?_
      exact hAg0 (k + 1) ⟨by omega, upto hI h16⟩ (by omega) 12 rfl rfl ⟨rfl, trivial⟩ rfl rfl
  ·
    refine CJ.exit ?_
    refine EJ.thenE ?_
    refine EJ.thenE ?_
    refine EJ.inE ?_
    refine EJ.thenN (hK2 ?_)
    refine CJ.seq fun _ hK10 _ => ?_
    refine CJ.region ?_
    refine J.p (PR.assign rfl) rfl ?_
    refine J.nil ?_
    refine EJ.thenN (hK10 ?_)
    refine CJ.ret ?_
    refine EJ.ret1 rfl (Res.tmp rfl) fun w hH => ?_
    exact ⟨ri (idxE_miss (fun j hj => hI j (by omega))), hH⟩
set_option maxRecDepth 10000 in
theorem ContainsI_c {B : World} {H0 H : HP} {L : List SA} {w : World} {qxs : Option Addr} {cxs : Nat} {xs : List Int} {x : Int}  (hxs : Ints H qxs xs) (hn : xs.length ≤ 9223372036854775807) (hH : Hp B H0 H L w) :
    Calls Try.prog 106 [.slice qxs xs.length cxs, .int .i64 x].toArray w fun e w' => e = .returned (.bool (xs.any fun y => decide (x = y))) ∧ Hp B H0 H L w' := by
  refine CJ.enter Try.func106 rfl 9 rfl rfl [(0, .slice qxs xs.length cxs), (1, .int .i64 x)] rfl hH ?_
  clear hH
  refine CJ.seq fun _ hK1 _ => ?_
  refine CJ.region ?_
  refine J.p (PR.assign rfl) rfl ?_
  refine J.nil ?_
  refine EJ.thenN (hK1 ?_)
  refine CJ.seq fun _ hK2 _ => ?_
  refine CJ.region ?_
  refine J.p (PR.move rfl) rfl ?_
  refine J.p (PR.move rfl) rfl ?_
  refine J.call fn157 rfl rfl fun w hH => (IndexI_c hxs (by omega) hH).mono ?_
  rintro _ w ⟨rfl, hH⟩
  refine ⟨_, rfl, fun a hF => J.of hF hH ?_⟩
  refine J.p (PR.geq rfl rfl) rfl ?_
  refine J.p (PR.assign rfl) rfl ?_
  refine J.nil ?_
  refine EJ.thenN (hK2 ?_)
  refine CJ.ret ?_
  refine EJ.ret1 rfl (Res.tmp rfl) fun w hH => ?_
  exact ⟨rb (idxE_ge xs x), hH⟩
set_option maxRecDepth 10000 in
theorem l02Rank_c {B : World} {H0 H : HP} {L : List SA} {w : World} {qts : Option Addr} {cts : Nat} {ts : List Term} {qr : Option Addr} {cr : Nat} {r : List Int} {M : Int} (hts : Terms H qts ts) (hr : Ints H qr r) (hb : ∀ j, 0 ≤ r.getD j 0 ∧ r.getD j 0 ≤ M) (hM : 0 ≤ M ∧ M ≤ 1000) (hn : r.length ≤ 8) (hl : ts.length ≤ 9223372036854775807) (hz : ∀ i, i < ts.length → ∀ j, r.length ≤ j → (tm ts i).mono.getD j 0 = 0) (hH : Hp B H0 H L w) :
    Calls Try.prog 105 [.agg [.slice qts ts.length cts].toArray, .slice qr r.length cr].toArray w fun e w' => e = .returned (.int .i64 (rkF ts r)) ∧ Hp B H0 H L w' := by
  refine CJ.enter Try.func105 rfl 43 rfl rfl [(0, .agg [.slice qts ts.length cts].toArray), (1, .slice qr r.length cr)] rfl hH ?_
  clear hH
  refine CJ.seq fun _ hK1 _ => ?_
  refine CJ.region ?_
  refine J.box rfl rfl rfl fun g2 => ?_
  refine J.p (PR.assign rfl) rfl ?_
  refine J.nil ?_
  refine EJ.thenN (hK1 ?_)
  refine CJ.seq fun _ hK2 _ => ?_
  refine CJ.region ?_
  refine J.p (PR.assign rfl) rfl ?_
  refine J.nil ?_
  refine EJ.thenN (hK2 ?_)
  refine CJ.seq fun _ hK3 _ => ?_
  refine CJ.seq fun _ hK4 _ => ?_
  refine CJ.region ?_
  refine J.p (PR.assign rfl) rfl ?_
  refine J.nil ?_
  refine EJ.thenN (hK4 ?_)
  refine CJ.block ?_
  refine CJ.loopU (σ := Nat) (fun (k : Nat) => [(6, .int .i64 (k : Int)), (5, .int .i64 (mxF ts r k))]) (fun (k : Nat) => H) (fun (k : Nat) => obj g2 (.cells [.slice qts ts.length cts].toArray 29 (0, 0)) :: L) (fun (k : Nat) => k ≤ ts.length ∧ okF ts r k) (fun (k : Nat) => ts.length - k) 0 ⟨by omega, okF_zero _ _⟩ ⟨rfl, ⟨rfl, trivial⟩⟩ rfl rfl ?_
  rintro k ⟨hk, hI⟩ _ hAg0
  have hx := mxF_bd (ts := ts) hb hM.1 k
  refine CJ.seq fun _ hK5 _ => ?_
  refine CJ.seq fun _ hK6 _ => ?_
  refine CJ.region ?_
  refine J.p (PR.move rfl) rfl ?_
  refine J.p (PR.fldA u29 rfl sz27 rfl) rfl ?_
  refine J.p (PR.load rfl At.z rfl pl27) rfl ?_
  refine J.p (PR.lenSlice u27 rfl rfl) rfl ?_
  refine J.p (PR.lss rfl rfl) rfl ?_
  refine J.nil ?_
  refine EJ.thenN (hK6 ?_)
  refine CJ.condD rfl (fun hc12 => ?_) (fun hc12 => ?_)
  ·
    refine CJ.skip ?_
    refine EJ.thenN (hK5 ?_)
    refine CJ.seq fun _ hK7 _ => ?_
    refine CJ.block ?_
    refine CJ.seq fun _ hK8 _ => ?_
    refine CJ.region ?_
    refine J.p (PR.assign rfl) rfl ?_
    refine J.nil ?_
    refine EJ.thenN (hK8 ?_)
    refine CJ.block ?_
    refine CJ.loopU (σ := Nat) (fun (j : Nat) => [(7, .int .i64 (j : Int)), (5, .int .i64 (mxT (tm ts k).mono r (mxF ts r k) j))]) (fun (j : Nat) => H) (fun (j : Nat) => obj g2 (.cells [.slice qts ts.length cts].toArray 29 (0, 0)) :: L) (fun (j : Nat) => j ≤ r.length ∧ okT (tm ts k).mono r j) (fun (j : Nat) => r.length - j) 0 ⟨by omega, okT_zero _ _⟩ ⟨rfl, ⟨rfl, trivial⟩⟩ rfl rfl ?_
    rintro j ⟨hj, hJ⟩ _ hAg1
    have hy := mxT_bd (m := (tm ts k).mono) hb hx j
    have hbj := hb j
    refine CJ.seq fun _ hK9 _ => ?_
    refine CJ.seq fun _ hK10 _ => ?_
    refine CJ.region ?_
    refine J.p (PR.move rfl) rfl ?_
    refine J.p (PR.move rfl) rfl ?_
    refine J.p (PR.lenSlice u22 rfl rfl) rfl ?_
    refine J.p (PR.lss rfl rfl) rfl ?_
    refine J.nil ?_
    refine EJ.thenN (hK10 ?_)
    refine CJ.condD rfl (fun hc18 => ?_) (fun hc18 => ?_)
    ·
      refine CJ.skip ?_
      refine EJ.thenN (hK9 ?_)
      refine CJ.seq fun _ hK11 _ => ?_
      refine CJ.block ?_
      refine CJ.seq fun _ hK12 _ => ?_
      refine CJ.seq fun _ hK13 _ => ?_
      refine CJ.region ?_
      refine J.p (PR.fldA u29 rfl sz27 rfl) rfl ?_
      refine J.p (PR.load rfl At.z rfl pl27) rfl ?_
      refine J.p (PR.move rfl) rfl ?_
      refine J.p (PR.move rfl) rfl ?_
      refine J.p (PR.idx u27 sz88 rfl rfl rfl (by omega) hts.sm) rfl ?_
      refine J.p (PR.fldP u88 rfl sz86 rfl (hts.sm (i := k) (by omega))) rfl ?_
      refine J.p (PR.idxP1 u86 sz5 rfl (hts.sm (i := k) (by omega)) rfl rfl (by omega)) rfl ?_
      refine J.p (PR.loadH rfl (hts.byte (by omega) (by omega)) pl5) rfl ?_
      refine J.p (PR.eql rfl rfl) rfl ?_
      refine J.nil ?_
      refine EJ.thenN (hK13 ?_)
      refine CJ.condD rfl (fun h29 => ?_) (fun h29 => ?_)
      ·
        refine CJ.exit ?_
        refine EJ.thenE ?_
        refine EJ.inE ?_
        refine EJ.thenN (hK11 ?_)
        refine CJ.region ?_
        refine J.p (PR.move rfl) rfl ?_
        refine J.p (PR.add rfl rfl (by first | exact nw _ (by omega) | rfl)) rfl ?_
        refine J.p (PR.assign rfl) rfl ?_
        refine J.nil ?_
        refine EJ.thenN ?_
        exact hAg1 (j + 1) ⟨by omega, okT_skip hJ h29⟩ (by omega) 18 rfl rfl ⟨rfl, ⟨(vi (mxT_skip h29)), trivial⟩⟩ rfl rfl
      ·
        refine CJ.skip ?_
        refine EJ.thenN (hK12 ?_)
        refine CJ.seq fun _ hK14 _ => ?_
        refine CJ.seq fun _ hK15 _ => ?_
        refine CJ.region ?_
        refine J.p (PR.move rfl) rfl ?_
        refine J.p (PR.move rfl) rfl ?_
        refine J.p (PR.idx1 u22 sz2 rfl rfl rfl (by omega) hr.sm) rfl ?_
        refine J.p (PR.loadH rfl (hr _ (by omega)) pl2) rfl ?_
        refine J.p (PR.eql rfl rfl) rfl ?_
        refine J.nil ?_
        refine EJ.thenN (hK15 ?_)
        refine CJ.condD rfl (fun h34 => ?_) (fun h34 => ?_)
        ·
          refine CJ.seq fun _ hK16 _ => ?_
          refine CJ.region ?_
          refine J.p (PR.assign rfl) rfl ?_
          refine J.nil ?_
          refine EJ.thenN (hK16 ?_)
          refine CJ.ret ?_
          refine EJ.thenR ?_
          refine EJ.inR ?_
          refine EJ.thenR ?_
          refine EJ.thenR ?_
          refine EJ.inR ?_
          refine EJ.inR ?_
          refine EJ.thenR ?_
          refine EJ.thenR ?_
          refine EJ.inR ?_
          refine EJ.thenR ?_
          refine EJ.ret1 rfl (Res.tmp rfl) fun w hH => ?_
          replace hH := hH.tail
          exact ⟨ri (rkF_no (i := k) (j := j) (by omega) (by omega) h29 h34).symm, hH⟩
        ·
          refine CJ.skip ?_
          refine EJ.thenN (hK14 ?_)
          refine CJ.region ?_
          refine J.p (PR.move rfl) rfl ?_
          refine J.p (PR.move rfl) rfl ?_
          refine J.p (PR.move rfl) rfl ?_
          refine J.p (PR.idx1 u22 sz2 rfl rfl rfl (by omega) hr.sm) rfl ?_
          refine J.p (PR.loadH rfl (hr _ (by omega)) pl2) rfl ?_
          refine J.p (PR.add rfl rfl (by first | exact nw _ (by omega) | rfl)) rfl ?_
          refine J.p (PR.max2 rfl rfl) rfl ?_
          refine J.p (PR.assign rfl) rfl ?_
          refine J.nil ?_
          refine EJ.inN ?_
          refine EJ.thenN (hK11 ?_)
          refine CJ.region ?_
          refine J.p (PR.move rfl) rfl ?_
          refine J.p (PR.add rfl rfl (by first | exact nw _ (by omega) | rfl)) rfl ?_
          refine J.p (PR.assign rfl) rfl ?_
          refine J.nil ?_
          refine EJ.thenN ?_
          exact hAg1 (j + 1) ⟨by omega, okT_succ hJ h34⟩ (by omega) 31 rfl rfl ⟨rfl, ⟨(vi (mxT_go h29)), trivial⟩⟩ rfl rfl
    ·
      refine CJ.exit ?_
      refine EJ.thenE ?_
      refine EJ.thenE ?_
      refine EJ.inE ?_
      refine EJ.inN ?_
      refine EJ.thenN (hK7 ?_)
      refine CJ.region ?_
      refine J.p (PR.move rfl) rfl ?_
      refine J.p (PR.add rfl rfl (by first | exact nw _ (by omega) | rfl)) rfl ?_
      refine J.p (PR.assign rfl) rfl ?_
      refine J.nil ?_
      refine EJ.thenN ?_
      exact hAg0 (k + 1) ⟨by omega, okF_succ hI (okT_end (hz k (by omega)) (by rw [show r.length = j by omega]; exact hJ))⟩ (by omega) 17 rfl rfl ⟨rfl, ⟨(vi (by simp only [mxF]; rw [mxT_end hn (hz k (by omega)), show r.length = j by omega])), trivial⟩⟩ rfl rfl
  ·
    refine CJ.exit ?_
    refine EJ.thenE ?_
    refine EJ.thenE ?_
    refine EJ.inE ?_
    refine EJ.thenN (hK3 ?_)
    refine CJ.seq fun _ hK17 _ => ?_
    refine CJ.region ?_
    refine J.p (PR.move rfl) rfl ?_
    refine J.p (PR.assign rfl) rfl ?_
    refine J.nil ?_
    refine EJ.thenN (hK17 ?_)
    refine CJ.ret ?_
    refine EJ.ret1 rfl (Res.tmp rfl) fun w hH => ?_
    replace hH := hH.tail
    obtain rfl : k = ts.length := by omega
    exact ⟨ri (rkF_ok hI).symm, hH⟩
theorem l02Rank_m {B : World} {H0 H : HP} {L : List SA} {w : World} {qts : Option Addr} {cts : Nat} {ts : List Term} {qr : Option Addr} {cr m : Nat} {r : List Int} {M : Int} (hts : Terms H qts ts) (hr : Ints H qr r) (hm : r.length = m) (hb : ∀ j, 0 ≤ r.getD j 0 ∧ r.getD j 0 ≤ M) (hM : 0 ≤ M ∧ M ≤ 1000) (hn : m ≤ 8) (hl : ts.length ≤ 9223372036854775807) (hz : ∀ i, i < ts.length → ∀ j, m ≤ j → (tm ts i).mono.getD j 0 = 0) (hH : Hp B H0 H L w) :
    Calls Try.prog 105 [.agg [.slice qts ts.length cts].toArray, .slice qr m cr].toArray w fun e w' => e = .returned (.int .i64 (rkF ts r)) ∧ Hp B H0 H L w' := by
  subst hm
  exact l02Rank_c hts hr hb hM hn hl hz hH
theorem ContainsI_m {B : World} {H0 H : HP} {L : List SA} {w : World} {qxs : Option Addr} {cxs m : Nat} {xs : List Int} {x : Int} (hxs : Ints H qxs xs) (hm : xs.length = m) (hn : m ≤ 9223372036854775807) (hH : Hp B H0 H L w) :
    Calls Try.prog 106 [.slice qxs m cxs, .int .i64 x].toArray w fun e w' => e = .returned (.bool (xs.any fun y => decide (x = y))) ∧ Hp B H0 H L w' := by
  subst hm
  exact ContainsI_c hxs hn hH
set_option maxHeartbeats 4000000 in
set_option maxRecDepth 10000 in
theorem sRanksOf_c {B : World} {H0 H : HP} {L : List SA} {w : World} {qad qaf : Option Addr} {cad caf : Nat} {ad : List Int} {af : List (List Term)}  (had : Ints H qad ad) (haf : Forms H qaf af) (hn8 : ad.length ≤ 1048576) (hn9 : af.length ≤ 1048576) (hl9 : ∀ i, i < af.length → (fm af i).length ≤ 1048576) (hH : Hp B H0 H L w) :
    Calls Try.prog 43 [.agg [.slice qad ad.length cad, .slice qaf af.length caf].toArray].toArray w fun e w' => ∃ q c, e = .returned (.tuple #[.slice q (rnkV ad af).length c, .int .i64 (rnkC ad af)]) ∧ Hp B H0 H (own 2 1 q (rnkV ad af).length c (intsC (rnkV ad af)) :: L) w' := by
  refine CJ.enter Try.func43 rfl 54 rfl rfl [(0, .agg [.slice qad ad.length cad, .slice qaf af.length caf].toArray)] rfl hH ?_
  clear hH
  refine CJ.seq fun _ hK1 _ => ?_
  refine CJ.region ?_
  refine J.box rfl rfl rfl fun g1 => ?_
  refine J.p (PR.assign rfl) rfl ?_
  refine J.p (PR.assign rfl) rfl ?_
  refine J.nil ?_
  refine EJ.thenN (hK1 ?_)
  refine CJ.seq fun _ hK2 _ => ?_
  refine CJ.seq fun _ hK3 _ => ?_
  refine CJ.region ?_
  refine J.p (PR.loadAll rfl At.z (by simpa [*] using ag41)) rfl ?_
  refine J.call fn89 rfl rfl fun w hH => (l02Is_c had haf hn8 hn9 hl9 hH).mono ?_
  rintro _ w ⟨rfl, hH⟩
  refine ⟨_, rfl, fun a hF => J.of hF hH ?_⟩
  refine J.p (PR.not rfl) rfl ?_
  refine J.nil ?_
  refine EJ.thenN (hK3 ?_)
  refine CJ.cond rfl (fun h10 => ?_) (fun h10 => ?_)
  ·
    refine CJ.seq fun _ hK4 _ => ?_
    refine CJ.region ?_
    refine J.p (PR.assign rfl) rfl ?_
    refine J.p (PR.assign rfl) rfl ?_
    refine J.nil ?_
    refine EJ.thenN (hK4 ?_)
    refine CJ.ret ?_
    refine EJ.thenR ?_
    refine EJ.ret2 rfl (Res.tmp rfl) (Res.tmp rfl) fun w hH => ?_
    replace hH := hH.sublist (.cons _ (List.Sublist.refl _))
    have hf9 : isAlg ad af = false := by simpa using h10
    have e1 : rnkV ad af = [] := if_neg (by rw [hf9]; simp)
    have e2 : rnkC ad af = 1 := if_neg (by rw [hf9]; simp)
    rw [e1, e2]
    exact ⟨none, 0, rfl, (hH.own0 2 1)⟩
  ·
    have hA9 : isAlg ad af = true := by simpa using h10
    have hA := isAlg_ok hA9 haf.wfss
    have hn8a := hA.hn
    have hl8a := hA.hl
    refine CJ.skip ?_
    refine EJ.thenN (hK2 ?_)
    refine CJ.seq fun _ hK5 _ => ?_
    refine CJ.region ?_
    refine J.p (PR.fldA u41 rfl sz22 rfl) rfl ?_
    refine J.p (PR.load rfl At.z rfl pl22) rfl ?_
    refine J.p (PR.lenSlice u22 rfl rfl) rfl ?_
    refine J.makeI u22 ze2 sz2 by2 rfl rfl rfl rfl (by omega) rfl fun g14 => ?_
    refine J.p (PR.assign rfl) rfl ?_
    refine J.nil ?_
    refine EJ.thenN (hK5 ?_)
    refine CJ.seq fun _ hK6 _ => ?_
    refine CJ.seq fun _ hK7 _ => ?_
    refine CJ.region ?_
    refine J.p (PR.assign rfl) rfl ?_
    refine J.nil ?_
    refine EJ.thenN (hK7 ?_)
    refine CJ.block ?_
    refine CJ.loopU (σ := Nat) (fun (t : Nat) => [(5, .int .i64 (t : Int))]) (fun (t : Nat) => H) (fun (t : Nat) => obj g14 (.cells (intsC (rndR af ad.length t)).toArray 2 (0, 0)) :: obj g1 (.cells [.slice qad ad.length cad, .slice qaf af.length caf].toArray 41 (0, 0)) :: L) (fun (t : Nat) => t ≤ ad.length) (fun (t : Nat) => ad.length - t) 0 (by omega) ⟨rfl, trivial⟩ rfl rfl ?_
    rintro t ht _ hAg0
    have hrl0 := (RkOk.rnd af ad.length t).len
    refine CJ.seq fun _ hK8 _ => ?_
    refine CJ.seq fun _ hK9 _ => ?_
    refine CJ.region ?_
    refine J.p (PR.move rfl) rfl ?_
    refine J.p (PR.move rfl) rfl ?_
    refine J.p (PR.lenSlice u22 rfl rfl) rfl ?_
    refine J.p (PR.lss rfl rfl) rfl ?_
    refine J.nil ?_
    refine EJ.thenN (hK9 ?_)
    refine CJ.condD rfl (fun hc18 => ?_) (fun hc18 => ?_)
    ·
      refine CJ.skip ?_
      refine EJ.thenN (hK8 ?_)
      refine CJ.seq fun _ hK10 _ => ?_
      refine CJ.block ?_
      refine CJ.seq fun _ hK11 _ => ?_
      refine CJ.region ?_
      refine J.p (PR.assign rfl) rfl ?_
      refine J.nil ?_
      refine EJ.thenN (hK11 ?_)
      refine CJ.block ?_
      refine CJ.loopU (σ := Nat) (fun (i : Nat) => [(6, .int .i64 (i : Int))]) (fun (i : Nat) => H) (fun (i : Nat) => obj g14 (.cells (intsC (inR af (rndR af ad.length t) i)).toArray 2 (0, 0)) :: obj g1 (.cells [.slice qad ad.length cad, .slice qaf af.length caf].toArray 41 (0, 0)) :: L) (fun (i : Nat) => i ≤ ad.length) (fun (i : Nat) => ad.length - i) 0 (by omega) ⟨rfl, trivial⟩ rfl rfl ?_
      rintro i hi _ hAg1
      have hR := (RkOk.rnd af ad.length t).inR i
      have hrl : (inR af (rndR af ad.length t) i).length = ad.length := hR.len
      have hmul : t * ad.length ≤ 64 := by have h1 := Nat.mul_le_mul (show t ≤ 8 by omega) (show ad.length ≤ 8 by omega); omega
      have hbM : ∀ j, 0 ≤ (inR af (rndR af ad.length t) i).getD j 0 ∧ (inR af (rndR af ad.length t) i).getD j 0 ≤ 72 := fun j => by have := hR.bd j; omega
      refine CJ.seq fun _ hK12 _ => ?_
      refine CJ.seq fun _ hK13 _ => ?_
      refine CJ.region ?_
      refine J.p (PR.move rfl) rfl ?_
      refine J.p (PR.move rfl) rfl ?_
      refine J.p (PR.lenSlice u22 rfl rfl) rfl ?_
      refine J.p (PR.lss rfl rfl) rfl ?_
      refine J.nil ?_
      refine EJ.thenN (hK13 ?_)
      refine CJ.condD rfl (fun hc24 => ?_) (fun hc24 => ?_)
      ·
        refine CJ.skip ?_
        refine EJ.thenN (hK12 ?_)
        refine CJ.seq fun _ hK14 _ => ?_
        refine CJ.block ?_
        refine CJ.seq fun _ hK15 _ => ?_
        refine CJ.region ?_
        refine J.p (PR.move rfl) rfl ?_
        refine J.p (PR.move rfl) rfl ?_
        refine J.p (PR.idxO1 u22 sz2 rfl rfl rfl (by omega)) rfl ?_
        refine J.p (PR.load rfl At.z (by first | exact bytesC_get (by simp [*]; omega) | exact intsC_get (by simp [*]; omega)) pl2) rfl ?_
        refine J.p (PR.eql rfl rfl) rfl ?_
        refine J.nil ?_
        refine EJ.thenN (hK15 ?_)
        refine CJ.condD rfl (fun h31 => ?_) (fun h31 => ?_)
        ·
          refine CJ.region ?_
          refine J.p (PR.move rfl) rfl ?_
          refine J.p (PR.move rfl) rfl ?_
          refine J.p (PR.fldA u41 rfl sz39 rfl) rfl ?_
          refine J.p (PR.load rfl (.s .z) rfl pl39) rfl ?_
          refine J.p (PR.move rfl) rfl ?_
          refine J.p (PR.idx1 u39 sz29 rfl rfl rfl (by omega) haf.sm) rfl ?_
          obtain ⟨qe38, ce38, he38, le38, Fe38⟩ := haf i (by omega)
          refine J.p (PR.loadHagg (cs := [_]) rfl (one_cell he38) (haf.sm (i := i) (by omega)) ag29) rfl ?_
          refine J.p (PR.move rfl) rfl ?_
          refine J.call fn105 rfl rfl fun w hH => hH.lend .z fun Hl1 hle1 hA1 hB1 hH => (l02Rank_m (Fe38.le hle1) (obj_ints hA1) hrl hbM (by omega) (by omega) (by have := hl9 i (by omega); omega) (fun x hx => form_zero (hA.wf.fm i) (hA.ok i (by omega)) hx) hH).mono ?_
          rintro _ w ⟨rfl, hH⟩
          replace hH := hB1 _ _ hH
          refine ⟨_, rfl, fun a hF => J.of hF hH ?_⟩
          refine J.p (PR.idxO1 u22 sz2 rfl rfl rfl (by omega)) rfl ?_
          refine J.storeI rfl rfl sz2 (by simp [*]; omega) At.z ?_
          refine J.nil ?_
          refine EJ.inN ?_
          refine EJ.thenN (hK14 ?_)
          refine CJ.region ?_
          refine J.p (PR.move rfl) rfl ?_
          refine J.p (PR.add rfl rfl (by first | exact nw _ (by omega) | rfl)) rfl ?_
          refine J.p (PR.assign rfl) rfl ?_
          refine J.nil ?_
          refine EJ.thenN ?_
          exact hAg1 (i + 1) (by omega) (by omega) 23 rfl rfl ⟨rfl, trivial⟩ rfl (congrArg (fun x => obj g14 (.cells (intsC x).toArray 2 (0, 0)) :: obj g1 (.cells [.slice qad ad.length cad, .slice qaf af.length caf].toArray 41 (0, 0)) :: L) (show _ = stepR _ _ _ from (if_pos h31).symm))
        ·
          refine CJ.skip ?_
          refine EJ.inN ?_
          refine EJ.thenN (hK14 ?_)
          refine CJ.region ?_
          refine J.p (PR.move rfl) rfl ?_
          refine J.p (PR.add rfl rfl (by first | exact nw _ (by omega) | rfl)) rfl ?_
          refine J.p (PR.assign rfl) rfl ?_
          refine J.nil ?_
          refine EJ.thenN ?_
          exact hAg1 (i + 1) (by omega) (by omega) 13 rfl rfl ⟨rfl, trivial⟩ rfl (congrArg (fun x => obj g14 (.cells (intsC x).toArray 2 (0, 0)) :: obj g1 (.cells [.slice qad ad.length cad, .slice qaf af.length caf].toArray 41 (0, 0)) :: L) (show _ = stepR _ _ _ from (if_neg h31).symm))
      ·
        refine CJ.exit ?_
        refine EJ.thenE ?_
        refine EJ.thenE ?_
        refine EJ.inE ?_
        refine EJ.inN ?_
        refine EJ.thenN (hK10 ?_)
        refine CJ.region ?_
        refine J.p (PR.move rfl) rfl ?_
        refine J.p (PR.add rfl rfl (by first | exact nw _ (by omega) | rfl)) rfl ?_
        refine J.p (PR.assign rfl) rfl ?_
        refine J.nil ?_
        refine EJ.thenN ?_
        exact hAg0 (t + 1) (by omega) (by omega) 14 rfl rfl ⟨rfl, trivial⟩ rfl (by rw [show i = ad.length by omega]; rfl)
    ·
      refine CJ.exit ?_
      refine EJ.thenE ?_
      refine EJ.thenE ?_
      refine EJ.inE ?_
      refine EJ.thenN (hK6 ?_)
      refine CJ.seq fun _ hK16 _ => ?_
      refine CJ.seq fun _ hK17 _ => ?_
      refine CJ.region ?_
      refine J.p (PR.assign rfl) rfl ?_
      refine J.nil ?_
      refine EJ.thenN (hK17 ?_)
      refine CJ.block ?_
      refine CJ.loopU (σ := Nat) (fun (k : Nat) => [(7, .int .i64 (k : Int))]) (fun (k : Nat) => H) (fun (k : Nat) => obj g14 (.cells (intsC (rnkR ad af)).toArray 2 (0, 0)) :: obj g1 (.cells [.slice qad ad.length cad, .slice qaf af.length caf].toArray 41 (0, 0)) :: L) (fun (k : Nat) => k ≤ ad.length ∧ ∀ j, j < k → (rnkR ad af).getD j 0 ≠ 0) (fun (k : Nat) => ad.length - k) 0 ⟨by omega, fun j hj => by omega⟩ ⟨rfl, trivial⟩ rfl (by rw [show t = ad.length by omega]; rfl) ?_
      rintro k ⟨hk, hJ⟩ _ hAg2
      have hrl9 := rnkR_len ad af
      refine CJ.seq fun _ hK18 _ => ?_
      refine CJ.seq fun _ hK19 _ => ?_
      refine CJ.region ?_
      refine J.p (PR.move rfl) rfl ?_
      refine J.p (PR.move rfl) rfl ?_
      refine J.p (PR.lenSlice u22 rfl rfl) rfl ?_
      refine J.p (PR.lss rfl rfl) rfl ?_
      refine J.nil ?_
      refine EJ.thenN (hK19 ?_)
      refine CJ.condD rfl (fun hc45 => ?_) (fun hc45 => ?_)
      ·
        refine CJ.skip ?_
        refine EJ.thenN (hK18 ?_)
        refine CJ.seq fun _ hK20 _ => ?_
        refine CJ.block ?_
        refine CJ.seq fun _ hK21 _ => ?_
        refine CJ.region ?_
        refine J.p (PR.move rfl) rfl ?_
        refine J.p (PR.move rfl) rfl ?_
        refine J.p (PR.idxO1 u22 sz2 rfl rfl rfl (by omega)) rfl ?_
        refine J.p (PR.load rfl At.z (by first | exact bytesC_get (by simp [*]; omega) | exact intsC_get (by simp [*]; omega)) pl2) rfl ?_
        refine J.p (PR.eql rfl rfl) rfl ?_
        refine J.nil ?_
        refine EJ.thenN (hK21 ?_)
        refine CJ.condD rfl (fun h52 => ?_) (fun h52 => ?_)
        ·
          refine CJ.seq fun _ hK22 _ => ?_
          refine CJ.region ?_
          refine J.p (PR.assign rfl) rfl ?_
          refine J.p (PR.assign rfl) rfl ?_
          refine J.nil ?_
          refine EJ.thenN (hK22 ?_)
          refine CJ.ret ?_
          refine EJ.inR ?_
          refine EJ.thenR ?_
          refine EJ.thenR ?_
          refine EJ.inR ?_
          refine EJ.thenR ?_
          refine EJ.ret2 rfl (Res.tmp rfl) (Res.tmp rfl) fun w hH => ?_
          replace hH := hH.sublist (.cons _ (.cons _ (List.Sublist.refl _)))
          have hbad := rnk_bad (k := k) (by omega) h52
          have e1 : rnkV ad af = [] := if_neg (by rw [hbad]; simp)
          have e2 : rnkC ad af = 5 := by unfold rnkC; rw [hA9, hbad]; rfl
          rw [e1, e2]
          exact ⟨none, 0, rfl, (hH.own0 2 1)⟩
        ·
          refine CJ.skip ?_
          refine EJ.inN ?_
          refine EJ.thenN (hK20 ?_)
          refine CJ.region ?_
          refine J.p (PR.move rfl) rfl ?_
          refine J.p (PR.add rfl rfl (by first | exact nw _ (by omega) | rfl)) rfl ?_
          refine J.p (PR.assign rfl) rfl ?_
          refine J.nil ?_
          refine EJ.thenN ?_
          exact hAg2 (k + 1) ⟨by omega, upto hJ h52⟩ (by omega) 13 rfl rfl ⟨rfl, trivial⟩ rfl rfl
      ·
        refine CJ.exit ?_
        refine EJ.thenE ?_
        refine EJ.thenE ?_
        refine EJ.inE ?_
        refine EJ.thenN (hK16 ?_)
        refine CJ.seq fun _ hK23 _ => ?_
        refine CJ.region ?_
        refine J.p (PR.move rfl) rfl ?_
        refine J.p (PR.assign rfl) rfl ?_
        refine J.p (PR.assign rfl) rfl ?_
        refine J.nil ?_
        refine EJ.thenN (hK23 ?_)
        refine CJ.ret ?_
        refine EJ.ret2 rfl (Res.tmp rfl) (Res.tmp rfl) fun w hH => ?_
        replace hH := hH.sublist (.cons_cons _ (.cons _ (List.Sublist.refl _)))
        have hgood := rnk_good (fun j hj => hJ j (by omega))
        have e1 : rnkV ad af = rnkR ad af := if_pos (by rw [hA9, hgood]; rfl)
        have e2 : rnkC ad af = 0 := by unfold rnkC; rw [hA9, hgood]; rfl
        have e3 := rnkR_len ad af
        have h9 := own_full (rnkR ad af).length 1 hH (by rw [intsC_length, Nat.mul_one] <;> rfl) (by rw [e3]; simp only [maxLen]; omega)
        rw [e1, e2]
        exact ⟨some ⟨g14, 0, none⟩, (rnkR ad af).length, by rw [e3], h9⟩
theorem notf2 {b : Bool} (h : b = false) : b = false := h
theorem pos_ne {x : Int} (h : 0 ≤ x) : decide (x > 0) = decide (x ≠ 0) := decide_eq_decide.2 ⟨fun h1 => by omega, fun h1 => by omega⟩
theorem ok_no {p q : Prop} [Decidable p] [Decidable q] (hp : decide p = false) (h : q → p) : false = decide q := (decide_eq_false fun x => of_decide_eq_false hp (h x)).symm
set_option maxHeartbeats 4000000 in
set_option maxRecDepth 10000 in
theorem RanksOf_c {B : World} {H0 H : HP} {L : List SA} {w : World} {qad qaf : Option Addr} {cad caf : Nat} {ad : List Int} {af : List (List Term)}  (had : Ints H qad ad) (haf : Forms H qaf af) (hn8 : ad.length ≤ 1048576) (hn9 : af.length ≤ 1048576) (hl9 : ∀ i, i < af.length → (fm af i).length ≤ 1048576) (hH : Hp B H0 H L w) :
    Calls Try.prog 44 [.agg [.slice qad ad.length cad, .slice qaf af.length caf].toArray].toArray w fun e w' => ∃ q c, e = .returned (.tuple #[.slice q (rnkV ad af).length c, .int .i64 (rnkC ad af)]) ∧ Hp B H0 H (own 2 1 q (rnkV ad af).length c (intsC (rnkV ad af)) :: L) w' := by
  refine CJ.enter Try.func44 rfl 81 rfl rfl [(0, .agg [.slice qad ad.length cad, .slice qaf af.length caf].toArray)] rfl hH ?_
  have hw0 := hH.old
  have hw1 := hH.le
  clear hH
  refine CJ.seq fun _ hK1 _ => ?_
  refine CJ.region ?_
  refine J.box rfl rfl rfl fun g1 => ?_
  refine J.freezeRow .z fun H2 hle2 hc2 => ?_
  replace had := had.le hle2
  replace haf := haf.le hle2
  have pad : CellAt H2 g1 0 (.slice qad ad.length cad) := hc2 0 _ rfl
  have paf : CellAt H2 g1 1 (.slice qaf af.length caf) := hc2 1 _ rfl
  refine J.p (PR.assign rfl) rfl ?_
  refine J.p (PR.assign rfl) rfl ?_
  refine J.nil ?_
  refine EJ.thenN (hK1 ?_)
  refine CJ.seq fun _ hK2 _ => ?_
  refine CJ.seq fun _ hK3 _ => ?_
  refine CJ.region ?_
  refine J.call fn99 rfl rfl fun w hH => (algebraCode_c pad paf had haf (forms_nil H2) hn8 hn9 hl9 (by simp) (fun i hi => by simp at hi) hH).mono ?_
  rintro _ w ⟨rfl, hH⟩
  refine ⟨_, rfl, fun a hF => J.of hF hH ?_⟩
  refine J.p (PR.assign rfl) rfl ?_
  refine J.nil ?_
  refine EJ.thenN (hK3 ?_)
  refine CJ.seq fun _ hK4 _ => ?_
  refine CJ.region ?_
  refine J.p (PR.move rfl) rfl ?_
  refine J.p (PR.neq rfl rfl) rfl ?_
  refine J.nil ?_
  refine EJ.thenN (hK4 ?_)
  refine CJ.condD rfl (fun h16 => ?_) (fun h16 => ?_)
  ·
    rw [codeA_nil] at h16 ⊢
    refine CJ.seq fun _ hK5 _ => ?_
    refine CJ.region ?_
    refine J.p (PR.move rfl) rfl ?_
    refine J.p (PR.assign rfl) rfl ?_
    refine J.p (PR.assign rfl) rfl ?_
    refine J.nil ?_
    refine EJ.thenN (hK5 ?_)
    refine CJ.ret ?_
    refine EJ.thenR ?_
    refine EJ.ret2 rfl (Res.tmp rfl) (Res.tmp rfl) fun w hH => ?_
    replace hH := hH.sublist (List.Sublist.refl _)
    have hf9 : isAlg ad af = false := algC_ne h16
    have e1 : rnkV ad af = [] := if_neg (by rw [hf9]; simp)
    have e2 : rnkC ad af = 1 := if_neg (by rw [hf9]; simp)
    rw [e1, e2]
    rw [show algC ad af = 1 from (algC_o hf9).symm]
    exact ⟨none, 0, rfl, (hH.own0 2 1).weaken hle2 hw0 hw1⟩
  ·
    rw [codeA_nil] at h16
    have hA9 := algC_eq h16
    have hA := isAlg_ok hA9 haf.wfss
    have hn8a := hA.hn
    have hl8a := hA.hl
    refine CJ.skip ?_
    refine EJ.thenN (hK2 ?_)
    refine CJ.seq fun _ hK6 _ => ?_
    refine CJ.region ?_
    refine J.p (PR.fldA u41 rfl sz22 rfl) rfl ?_
    refine J.p (PR.loadH (q := some ⟨g1, 0, none⟩) (k := 0) rfl pad pl22) rfl ?_
    refine J.p (PR.lenSlice u22 rfl rfl) rfl ?_
    refine J.makeI u22 ze2 sz2 by2 rfl rfl rfl rfl (by omega) rfl fun g21 => ?_
    refine J.p (PR.assign rfl) rfl ?_
    refine J.nil ?_
    refine EJ.thenN (hK6 ?_)
    refine CJ.seq fun _ hK7 _ => ?_
    refine CJ.seq fun _ hK8 _ => ?_
    refine CJ.region ?_
    refine J.p (PR.fldA u41 rfl sz22 rfl) rfl ?_
    refine J.p (PR.loadH (q := some ⟨g1, 0, none⟩) (k := 0) rfl pad pl22) rfl ?_
    refine J.p (PR.lenSlice u22 rfl rfl) rfl ?_
    refine J.p (PR.move rfl) rfl ?_
    refine J.nil ?_
    refine EJ.thenN (hK8 ?_)
    refine CJ.block ?_
    refine CJ.loopU (σ := Nat) (fun (t : Nat) => [(25, .int .i64 (t : Int))]) (fun (t : Nat) => H2) (fun (t : Nat) => obj g21 (.cells (intsC (rndR af ad.length t)).toArray 2 (0, 0)) :: L) (fun (t : Nat) => t ≤ ad.length) (fun (t : Nat) => ad.length - t) 0 (by omega) ⟨rfl, trivial⟩ rfl rfl ?_
    rintro t ht _ hAg0
    have hrl0 := (RkOk.rnd af ad.length t).len
    refine CJ.seq fun _ hK9 _ => ?_
    refine CJ.region ?_
    refine J.p (PR.lss rfl rfl) rfl ?_
    refine J.nil ?_
    refine EJ.thenN (hK9 ?_)
    refine CJ.seq fun _ hK10 _ => ?_
    refine CJ.condD rfl (fun hc26 => ?_) (fun hc26 => ?_)
    ·
      refine CJ.skip ?_
      refine EJ.thenN (hK10 ?_)
      refine CJ.seq fun _ hK11 _ => ?_
      refine CJ.block ?_
      refine CJ.seq fun _ hK12 _ => ?_
      refine CJ.region ?_
      refine J.p (PR.fldA u41 rfl sz39 rfl) rfl ?_
      refine J.p (PR.loadH (q := some ⟨g1, 0, none⟩) (k := 1) rfl paf pl39) rfl ?_
      refine J.p (PR.lenSlice u39 rfl rfl) rfl ?_
      refine J.p (PR.move rfl) rfl ?_
      refine J.nil ?_
      refine EJ.thenN (hK12 ?_)
      refine CJ.block ?_
      refine CJ.loopU (σ := Nat) (fun (i : Nat) => [(30, .int .i64 (i : Int))]) (fun (i : Nat) => H2) (fun (i : Nat) => obj g21 (.cells (intsC ((inR af (rndR af ad.length t) i))).toArray 2 (0, 0)) :: L) (fun (i : Nat) => i ≤ af.length) (fun (i : Nat) => af.length - i) 0 (by omega) ⟨rfl, trivial⟩ rfl rfl ?_
      rintro i hi _ hAg1
      have hR := (RkOk.rnd af ad.length t).inR i
      have hrl : (inR af (rndR af ad.length t) i).length = ad.length := hR.len
      have hmul : t * ad.length ≤ 64 := by have h1 := Nat.mul_le_mul (show t ≤ 8 by omega) (show ad.length ≤ 8 by omega); omega
      have hbM : ∀ j, 0 ≤ (inR af (rndR af ad.length t) i).getD j 0 ∧ (inR af (rndR af ad.length t) i).getD j 0 ≤ 72 := fun j => by have := hR.bd j; omega
      refine CJ.seq fun _ hK13 _ => ?_
      refine CJ.region ?_
      refine J.p (PR.lss rfl rfl) rfl ?_
      refine J.nil ?_
      refine EJ.thenN (hK13 ?_)
      refine CJ.seq fun _ hK14 _ => ?_
      refine CJ.condD rfl (fun hc31 => ?_) (fun hc31 => ?_)
      ·
        refine CJ.skip ?_
        refine EJ.thenN (hK14 ?_)
        refine CJ.seq fun _ hK15 _ => ?_
        refine CJ.block ?_
        refine CJ.seq fun _ hK16 _ => ?_
        refine CJ.region ?_
        refine J.p (PR.move rfl) rfl ?_
        refine J.p (PR.idx1 u39 sz29 rfl rfl rfl (by omega) haf.sm) rfl ?_
        obtain ⟨qe34, ce34, he34, le34, Fe34⟩ := haf i (by omega)
        refine J.p (PR.loadHagg (cs := [_]) rfl (one_cell he34) (haf.sm (i := i) (by omega)) ag29) rfl ?_
        refine J.alloc ze29 rfl fun g7 => ?_
        refine J.p (PR.assign rfl) rfl ?_
        refine J.storeAll rfl rfl (by first | exact bytesC_one _ | exact intsC_one _ | exact Term.c_one _ | simp [Value.oneCell']) (by simpa [*] using sz29) (by simp [*]) At.z ?_
        refine J.nil ?_
        refine EJ.thenN (hK16 ?_)
        refine CJ.seq fun _ hK17 _ => ?_
        refine CJ.region ?_
        refine J.p (PR.assign rfl) rfl ?_
        refine J.p (PR.assign rfl) rfl ?_
        refine J.nil ?_
        refine EJ.thenN (hK17 ?_)
        refine CJ.seq fun _ hK18 _ => ?_
        refine CJ.seq fun _ hK19 _ => ?_
        refine CJ.region ?_
        refine J.p (PR.fldA u29 rfl sz27 rfl) rfl ?_
        refine J.p (PR.load rfl At.z rfl pl27) rfl ?_
        refine J.p (PR.lenSlice u27 rfl rfl) rfl ?_
        refine J.p (PR.move rfl) rfl ?_
        refine J.nil ?_
        refine EJ.thenN (hK19 ?_)
        refine CJ.block ?_
        refine CJ.loopU (σ := Nat) (fun (k : Nat) => [(38, .int .i64 (k : Int)), (8, .int .i64 (mxF (fm af i) (inR af (rndR af ad.length t) i) k)), (9, .bool (decide (okF (fm af i) (inR af (rndR af ad.length t) i) k)))]) (fun (k : Nat) => H2) (fun (k : Nat) => obj g7 (.cells [.slice qe34 (fm af i).length ce34].toArray 29 (0, 0)) :: obj g21 (.cells (intsC ((inR af (rndR af ad.length t) i))).toArray 2 (0, 0)) :: L) (fun (k : Nat) => k ≤ (fm af i).length) (fun (k : Nat) => (fm af i).length - k) 0 (by omega) ⟨rfl, ⟨rfl, ⟨(vb (decide_eq_true (okF_zero _ _)).symm), trivial⟩⟩⟩ rfl rfl ?_
        rintro k hk _ hAg2
        have hx := mxF_bd (ts := fm af i) hbM (by omega) k
        have hlt9 := hl9 i (by omega)
        refine CJ.seq fun _ hK20 _ => ?_
        refine CJ.region ?_
        refine J.p (PR.lss rfl rfl) rfl ?_
        refine J.nil ?_
        refine EJ.thenN (hK20 ?_)
        refine CJ.seq fun _ hK21 _ => ?_
        refine CJ.condD rfl (fun hc39 => ?_) (fun hc39 => ?_)
        ·
          refine CJ.skip ?_
          refine EJ.thenN (hK21 ?_)
          refine CJ.seq fun _ hK22 _ => ?_
          refine CJ.block ?_
          refine CJ.seq fun _ hK23 _ => ?_
          refine CJ.region ?_
          refine J.p (PR.idx u27 sz88 rfl rfl rfl (by omega) Fe34.sm) rfl ?_
          refine J.p (PR.loadHagg rfl (Fe34.cell _ (by omega)) (Fe34.sm (i := k) (by omega)) (by rw [Term.c_length (Fe34.wf _ (by omega))]; exact ag88)) rfl ?_
          refine J.alloc (cs := (default : Term).c) ze88 rfl fun g11 => ?_
          refine J.stTerm rfl rfl sz88 zero_wf (Fe34.wf k (by omega)) At.z ?_
          refine J.nil ?_
          refine EJ.thenN (hK23 ?_)
          refine CJ.seq fun _ hK24 _ => ?_
          refine CJ.region ?_
          refine J.p (PR.fldA u88 rfl sz86 rfl) rfl ?_
          refine J.p (PR.ldMono rfl At.z (Fe34.wf k (by omega)) ag86) rfl ?_
          refine J.p (PR.move rfl) rfl ?_
          refine J.nil ?_
          refine EJ.thenN (hK24 ?_)
          refine CJ.block ?_
          refine CJ.loopU (σ := Nat) (fun (j : Nat) => [(44, .int .i64 (j : Int)), (8, .int .i64 (mxT (tm (fm af i) k).mono (inR af (rndR af ad.length t) i) (mxF (fm af i) (inR af (rndR af ad.length t) i) k) j)), (9, .bool (decide (okF (fm af i) (inR af (rndR af ad.length t) i) k ∧ okT (tm (fm af i) k).mono (inR af (rndR af ad.length t) i) j)))]) (fun (j : Nat) => H2) (fun (j : Nat) => obj g11 (.cells (tm (fm af i) k).c.toArray 88 (0, 0)) :: obj g7 (.cells [.slice qe34 (fm af i).length ce34].toArray 29 (0, 0)) :: obj g21 (.cells (intsC ((inR af (rndR af ad.length t) i))).toArray 2 (0, 0)) :: L) (fun (j : Nat) => j ≤ 8) (fun (j : Nat) => 8 - j) 0 (by omega) ⟨rfl, ⟨rfl, ⟨(vb (decide_eq_decide.2 ⟨fun h => ⟨h, okT_zero _ _⟩, fun h => h.1⟩)), trivial⟩⟩⟩ rfl rfl ?_
          rintro j hj _ hAg3
          have hy := mxT_bd (m := (tm (fm af i) k).mono) hbM hx j
          have hbj := hbM j
          have hmb : Mono (tm (fm af i) k).mono := ((hA.wf.fm i) _ (tm_mem (by omega))).mono
          have hz9 := form_zero (hA.wf.fm i) (hA.ok i (by omega)) (i := k) (by omega)
          refine CJ.seq fun _ hK25 _ => ?_
          refine CJ.region ?_
          refine J.p (PR.lss rfl rfl) rfl ?_
          refine J.nil ?_
          refine EJ.thenN (hK25 ?_)
          refine CJ.seq fun _ hK26 _ => ?_
          refine CJ.condD rfl (fun hc45 => ?_) (fun hc45 => ?_)
          ·
            refine CJ.skip ?_
            refine EJ.thenN (hK26 ?_)
            refine CJ.seq fun _ hK27 _ => ?_
            refine CJ.block ?_
            refine CJ.seq fun _ hK28 _ => ?_
            refine CJ.region ?_
            refine J.p (PR.move rfl) rfl ?_
            refine J.p (PR.index u86 sz5 pl5 rfl rfl rfl (by omega) (by exact bytesC_get (by rw [hmb.len]; omega))) rfl ?_
            refine J.p (PR.assign rfl) rfl ?_
            refine J.p (PR.assign rfl) rfl ?_
            refine J.nil ?_
            refine EJ.thenN (hK28 ?_)
            refine CJ.seq fun _ hK29 _ => ?_
            refine CJ.region ?_
            refine J.p (PR.move rfl) rfl ?_
            refine J.p (PR.gtr rfl rfl) rfl ?_
            refine J.nil ?_
            refine EJ.thenN (hK29 ?_)
            refine CJ.condD rfl (fun h49 => ?_) (fun h49 => ?_)
            ·
              have hjn : j < ad.length := Decidable.byContradiction fun hx9 => by have := hz9 j (by omega); omega
              have hm0 : (tm (fm af i) k).mono.getD j 0 ≠ 0 := by omega
              refine CJ.seq fun _ hK30 _ => ?_
              refine CJ.region ?_
              refine J.p (PR.move rfl) rfl ?_
              refine J.p (PR.move rfl) rfl ?_
              refine J.splitB (jd := 51) rfl (fun h51 => ?_) (fun h51 => ?_)
              ·
                try have h51p := of_decide_eq_true h51
                refine J.gy (PR.move rfl) rfl rfl rfl h51 ?_
                refine J.gy (PR.move rfl) rfl rfl rfl h51 ?_
                refine J.gy (PR.idxO1 u22 sz2 rfl rfl rfl (by omega)) rfl rfl rfl h51 ?_
                refine J.gy (PR.load rfl (.s (.s .z)) (by exact intsC_get (by rw [hrl]; exact hjn)) pl2) rfl rfl rfl h51 ?_
                refine J.gy (PR.gtr rfl rfl) rfl rfl rfl h51 ?_
                refine J.p (PR.pickT rfl h51 rfl) rfl ?_
                refine J.p (PR.assign rfl) rfl ?_
                refine J.nil ?_
                refine EJ.thenN (hK30 ?_)
                refine CJ.region ?_
                refine J.p (PR.move rfl) rfl ?_
                refine J.p (PR.move rfl) rfl ?_
                refine J.p (PR.move rfl) rfl ?_
                refine J.p (PR.move rfl) rfl ?_
                refine J.p (PR.lenSlice u22 rfl rfl) rfl ?_
                refine J.p (PR.sub rfl rfl (by first | exact nw _ (by omega) | rfl)) rfl ?_
                refine J.p (PR.min2 rfl rfl) rfl ?_
                refine J.p (PR.idxO1 (i' := j) u22 sz2 rfl rfl (by split <;> omega) (by omega)) rfl ?_
                refine J.p (PR.load rfl (.s (.s .z)) (by exact intsC_get (by rw [hrl]; exact hjn)) pl2) rfl ?_
                refine J.p (PR.add rfl rfl (by first | exact nw _ (by omega) | rfl)) rfl ?_
                refine J.p (PR.max2 rfl rfl) rfl ?_
                refine J.p (PR.assign rfl) rfl ?_
                refine J.nil ?_
                refine EJ.inN ?_
                refine EJ.thenN (hK27 ?_)
                refine CJ.region ?_
                refine J.p (PR.add rfl rfl (by first | exact nw _ (by omega) | rfl)) rfl ?_
                refine J.p (PR.move rfl) rfl ?_
                refine J.nil ?_
                refine EJ.thenN ?_
                exact hAg3 (j + 1) (by omega) (by omega) 33 rfl rfl ⟨rfl, ⟨(vi (mxT_go hm0)), ⟨(vb (by rw [pos_ne hbj.1]; exact decide_eq_decide.2 ⟨fun h => ⟨(of_decide_eq_true h51).1, (okT_iff1 hm0).2 ⟨(of_decide_eq_true h51).2, h⟩⟩, fun h => ((okT_iff1 hm0).1 h.2).2⟩)), trivial⟩⟩⟩ rfl rfl
              ·
                try have h51p := of_decide_eq_false h51
                refine J.gn rfl rfl rfl h51 ?_
                refine J.gn rfl rfl rfl h51 ?_
                refine J.gn rfl rfl rfl h51 ?_
                refine J.gn rfl rfl rfl h51 ?_
                refine J.gn rfl rfl rfl h51 ?_
                refine J.p (PR.pickF rfl h51 rfl) rfl ?_
                refine J.p (PR.assign rfl) rfl ?_
                refine J.nil ?_
                refine EJ.thenN (hK30 ?_)
                refine CJ.region ?_
                refine J.p (PR.move rfl) rfl ?_
                refine J.p (PR.move rfl) rfl ?_
                refine J.p (PR.move rfl) rfl ?_
                refine J.p (PR.move rfl) rfl ?_
                refine J.p (PR.lenSlice u22 rfl rfl) rfl ?_
                refine J.p (PR.sub rfl rfl (by first | exact nw _ (by omega) | rfl)) rfl ?_
                refine J.p (PR.min2 rfl rfl) rfl ?_
                refine J.p (PR.idxO1 (i' := j) u22 sz2 rfl rfl (by split <;> omega) (by omega)) rfl ?_
                refine J.p (PR.load rfl (.s (.s .z)) (by exact intsC_get (by rw [hrl]; exact hjn)) pl2) rfl ?_
                refine J.p (PR.add rfl rfl (by first | exact nw _ (by omega) | rfl)) rfl ?_
                refine J.p (PR.max2 rfl rfl) rfl ?_
                refine J.p (PR.assign rfl) rfl ?_
                refine J.nil ?_
                refine EJ.inN ?_
                refine EJ.thenN (hK27 ?_)
                refine CJ.region ?_
                refine J.p (PR.add rfl rfl (by first | exact nw _ (by omega) | rfl)) rfl ?_
                refine J.p (PR.move rfl) rfl ?_
                refine J.nil ?_
                refine EJ.thenN ?_
                exact hAg3 (j + 1) (by omega) (by omega) 33 rfl rfl ⟨rfl, ⟨(vi (mxT_go hm0)), ⟨(vb (ok_no h51 (fun h => ⟨h.1, ((okT_iff1 hm0).1 h.2).1⟩))), trivial⟩⟩⟩ rfl rfl
            ·
              have hm0 : (tm (fm af i) k).mono.getD j 0 = 0 := by have := hmb.bd j; omega
              refine CJ.skip ?_
              refine EJ.inN ?_
              refine EJ.thenN (hK27 ?_)
              refine CJ.region ?_
              refine J.p (PR.add rfl rfl (by first | exact nw _ (by omega) | rfl)) rfl ?_
              refine J.p (PR.move rfl) rfl ?_
              refine J.nil ?_
              refine EJ.thenN ?_
              exact hAg3 (j + 1) (by omega) (by omega) 12 rfl rfl ⟨rfl, ⟨(vi (mxT_skip hm0)), ⟨(vb (decide_eq_decide.2 (by rw [okT_iff0 hm0]))), trivial⟩⟩⟩ rfl rfl
          ·
            refine CJ.exit ?_
            refine EJ.thenE ?_
            refine EJ.thenE ?_
            refine EJ.inE ?_
            refine EJ.inN ?_
            refine EJ.thenN (hK22 ?_)
            refine CJ.region ?_
            refine J.p (PR.add rfl rfl (by first | exact nw _ (by omega) | rfl)) rfl ?_
            refine J.p (PR.move rfl) rfl ?_
            refine J.nil ?_
            refine EJ.thenN ?_
            refine EJ.drop .z ?_
            exact hAg2 (k + 1) (by omega) (by omega) 16 rfl rfl ⟨rfl, ⟨(vi (by rw [show j = 8 by omega]; rfl)), ⟨(vb (by rw [show j = 8 by omega]; exact decide_eq_decide.2 okF_iff2.symm)), trivial⟩⟩⟩ rfl rfl
        ·
          refine CJ.exit ?_
          refine EJ.thenE ?_
          refine EJ.thenE ?_
          refine EJ.inE ?_
          refine EJ.thenN (hK18 ?_)
          refine CJ.seq fun _ hK31 _ => ?_
          refine CJ.region ?_
          refine J.p (PR.move rfl) rfl ?_
          refine J.nil ?_
          refine EJ.thenN (hK31 ?_)
          refine CJ.cond rfl (fun h71 => ?_) (fun h71 => ?_)
          ·
            refine CJ.region ?_
            refine J.p (PR.move rfl) rfl ?_
            refine J.p (PR.move rfl) rfl ?_
            refine J.p (PR.move rfl) rfl ?_
            refine J.p (PR.idxO1 u22 sz2 rfl rfl rfl (by omega)) rfl ?_
            refine J.storeI rfl rfl sz2 (by simp [*]; omega) (.s .z) ?_
            refine J.nil ?_
            refine EJ.inN ?_
            refine EJ.thenN (hK15 ?_)
            refine CJ.region ?_
            refine J.p (PR.add rfl rfl (by first | exact nw _ (by omega) | rfl)) rfl ?_
            refine J.p (PR.move rfl) rfl ?_
            refine J.nil ?_
            refine EJ.thenN ?_
            refine EJ.drop .z ?_
            exact hAg1 (i + 1) (by omega) (by omega) 24 rfl rfl ⟨rfl, trivial⟩ rfl (congrArg (fun x => obj g21 (.cells (intsC x).toArray 2 (0, 0)) :: L) (show _ = stepR _ _ _ by rw [show k = (fm af i).length by omega]; exact stepR_again hR (by omega) (by rw [show k = (fm af i).length by omega] at h71; exact of_decide_eq_true h71)))
          ·
            refine CJ.skip ?_
            refine EJ.inN ?_
            refine EJ.thenN (hK15 ?_)
            refine CJ.region ?_
            refine J.p (PR.add rfl rfl (by first | exact nw _ (by omega) | rfl)) rfl ?_
            refine J.p (PR.move rfl) rfl ?_
            refine J.nil ?_
            refine EJ.thenN ?_
            refine EJ.drop .z ?_
            exact hAg1 (i + 1) (by omega) (by omega) 20 rfl rfl ⟨rfl, trivial⟩ rfl (congrArg (fun x => obj g21 (.cells (intsC x).toArray 2 (0, 0)) :: L) (show _ = stepR _ _ _ from stepR_not (by rw [show k = (fm af i).length by omega] at h71; simpa using h71)))
      ·
        refine CJ.exit ?_
        refine EJ.thenE ?_
        refine EJ.thenE ?_
        refine EJ.inE ?_
        refine EJ.inN ?_
        refine EJ.thenN (hK11 ?_)
        refine CJ.region ?_
        refine J.p (PR.add rfl rfl (by first | exact nw _ (by omega) | rfl)) rfl ?_
        refine J.p (PR.move rfl) rfl ?_
        refine J.nil ?_
        refine EJ.thenN ?_
        exact hAg0 (t + 1) (by omega) (by omega) 10 rfl rfl ⟨rfl, trivial⟩ rfl (by rw [show i = ad.length by omega]; rfl)
    ·
      refine CJ.exit ?_
      refine EJ.thenE ?_
      refine EJ.thenE ?_
      refine EJ.inE ?_
      refine EJ.thenN (hK7 ?_)
      refine CJ.seq fun _ hK32 _ => ?_
      refine CJ.seq fun _ hK33 _ => ?_
      refine CJ.region ?_
      refine J.p (PR.move rfl) rfl ?_
      refine J.call fn106 rfl rfl fun w hH => hH.lend .z fun Hl1 hle1 hA1 hB1 hH => (ContainsI_m (obj_ints hA1) (by exact (RkOk.rnd af ad.length t).len) (by omega) hH).mono ?_
      rintro _ w ⟨rfl, hH⟩
      replace hH := hB1 _ _ hH
      refine ⟨_, rfl, fun a hF => J.of hF hH ?_⟩
      refine J.nil ?_
      refine EJ.thenN (hK33 ?_)
      refine CJ.cond rfl (fun h79 => ?_) (fun h79 => ?_)
      ·
        refine CJ.seq fun _ hK34 _ => ?_
        refine CJ.region ?_
        refine J.p (PR.assign rfl) rfl ?_
        refine J.p (PR.assign rfl) rfl ?_
        refine J.nil ?_
        refine EJ.thenN (hK34 ?_)
        refine CJ.ret ?_
        refine EJ.thenR ?_
        refine EJ.ret2 rfl (Res.tmp rfl) (Res.tmp rfl) fun w hH => ?_
        replace hH := hH.sublist (.cons _ (List.Sublist.refl _))
        have ht9 : t = ad.length := by omega
        rw [ht9] at h79
        have hbad : rnkOk ad af = false := rnk_has h79
        have e1 : rnkV ad af = [] := if_neg (by rw [hbad]; simp)
        have e2 : rnkC ad af = 5 := by unfold rnkC; rw [hA9, hbad]; rfl
        rw [e1, e2]
        exact ⟨none, 0, rfl, (hH.own0 2 1).weaken hle2 hw0 hw1⟩
      ·
        refine CJ.skip ?_
        refine EJ.thenN (hK32 ?_)
        refine CJ.seq fun _ hK35 _ => ?_
        refine CJ.region ?_
        refine J.p (PR.move rfl) rfl ?_
        refine J.p (PR.assign rfl) rfl ?_
        refine J.p (PR.assign rfl) rfl ?_
        refine J.nil ?_
        refine EJ.thenN (hK35 ?_)
        refine CJ.ret ?_
        refine EJ.ret2 rfl (Res.tmp rfl) (Res.tmp rfl) fun w hH => ?_
        replace hH := hH.sublist (.cons_cons _ (List.Sublist.refl _))
        have ht9 : t = ad.length := by omega
        rw [ht9] at h79 hH
        have hgood : rnkOk ad af = true := rnk_hasnt (notf2 h79)
        have e1 : rnkV ad af = rnkR ad af := if_pos (by rw [hA9, hgood]; rfl)
        have e2 : rnkC ad af = 0 := by unfold rnkC; rw [hA9, hgood]; rfl
        have e3 := rnkR_len ad af
        have h9 := own_full (rnkR ad af).length 1 hH (by rw [intsC_length, Nat.mul_one] <;> rfl) (by rw [e3]; simp only [maxLen]; omega)
        rw [e1, e2]
        exact ⟨some ⟨g21, 0, none⟩, (rnkR ad af).length, by rw [e3], h9.weaken hle2 hw0 hw1⟩
end Go.Proofs.Ytpojpokldncglaa.G
namespace Go.Proofs.Ytpojpokldncglaa.G
open Go Go.RowKit
namespace Ll
theorem u41 : Try.prog.underlying 41 = some (TypeDesc.struct #[{ name := "Degrees", type := 22, offset := 0, embedded := false, tag := "", pkgPath := "", byteOffset := 0 }, { name := "Images", type := 39, offset := 1, embedded := false, tag := "", pkgPath := "", byteOffset := 24 }]) := by kernel_rfl
theorem u49 : Try.prog.underlying 49 = some (TypeDesc.struct #[{ name := "Degrees", type := 22, offset := 0, embedded := false, tag := "", pkgPath := "", byteOffset := 0 }, { name := "Images", type := 47, offset := 1, embedded := false, tag := "", pkgPath := "", byteOffset := 24 }]) := by kernel_rfl
theorem sz41 : Size Try.prog 41 2 := by unfold Size; kernel_rfl
theorem ze41 : Zero Try.prog 41 [.slice none 0 0, .slice none 0 0] := by unfold Zero; kernel_rfl
theorem ag41 : Agg Try.prog 41 2 := ⟨_, u41, rfl, by kernel_rfl⟩
theorem ag49 : Agg Try.prog 49 2 := ⟨_, u49, rfl, by kernel_rfl⟩
theorem fn24 : Fn Try.prog 24 := ⟨_, Try.func24, by kernel_rfl, rfl⟩
theorem fn25 : Fn Try.prog 25 := ⟨_, Try.func25, by kernel_rfl, rfl⟩
theorem fn30 : Fn Try.prog 30 := ⟨_, Try.func30, by kernel_rfl, rfl⟩
theorem fn31 : Fn Try.prog 31 := ⟨_, Try.func31, by kernel_rfl, rfl⟩
theorem fn33 : Fn Try.prog 33 := ⟨_, Try.func33, by kernel_rfl, rfl⟩
theorem fn35 : Fn Try.prog 35 := ⟨_, Try.func35, by kernel_rfl, rfl⟩
theorem fn43 : Fn Try.prog 43 := ⟨_, Try.func43, by kernel_rfl, rfl⟩
theorem fn44 : Fn Try.prog 44 := ⟨_, Try.func44, by kernel_rfl, rfl⟩
theorem fn45 : Fn Try.prog 45 := ⟨_, Try.func45, by kernel_rfl, rfl⟩
theorem foll0 : Try.prog.follows .mixedOrders = true := by kernel_rfl
end Ll
open Ll
set_option maxHeartbeats 4000000 in
set_option maxRecDepth 10000 in
theorem lawRanksOf_c {B : World} {H0 H : HP} {L : List SA} {w : World} {qad qaf : Option Addr} {cad caf : Nat} {ad : List Int} {af : List (List Term)}  (had : Ints H qad ad) (haf : Forms H qaf af) (hn : ad.length ≤ 9223372036854775807 ∧ af.length ≤ 9223372036854775807) (hl : ∀ i, i < af.length → (fm af i).length ≤ 9223372036854775807) (hH : Hp B H0 H L w) :
    Calls Try.prog 9 [.agg [.slice qad ad.length cad, .slice qaf af.length caf].toArray].toArray w fun e w' => e = .returned (.bool true) ∧ Below B.heap.size B w' := by
  refine CJ.enter Try.func9 rfl 96 rfl rfl [(0, .agg [.slice qad ad.length cad, .slice qaf af.length caf].toArray)] rfl hH ?_
  clear hH
  have f1 := rnkV_len ad af
  refine CJ.seq fun _ hK1 _ => ?_
  refine CJ.region ?_
  refine J.box rfl rfl rfl fun g1 => ?_
  refine J.p (PR.assign rfl) rfl ?_
  refine J.nil ?_
  refine EJ.thenN (hK1 ?_)
  refine CJ.seq fun _ hK2 _ => ?_
  refine CJ.region ?_
  refine J.p (PR.assign rfl) rfl ?_
  refine J.nil ?_
  refine EJ.thenN (hK2 ?_)
  refine CJ.seq fun _ hK3 _ => ?_
  refine CJ.region ?_
  refine J.p (PR.loadAll rfl At.z (by simpa [*] using ag49)) rfl ?_
  refine J.p (PR.move rfl) rfl ?_
  refine J.call fn33 rfl rfl fun w hH => (szAlgebra_c had haf (by omega) hl hH).mono ?_
  rintro _ w ⟨rfl, hH⟩
  refine ⟨_, rfl, fun a hF => J.of hF hH ?_⟩
  refine J.p (PR.assign rfl) rfl ?_
  refine J.nil ?_
  refine EJ.thenN (hK3 ?_)
  refine CJ.seq fun _ hK4 _ => ?_
  refine CJ.seq fun _ hK5 _ => ?_
  refine CJ.region ?_
  refine J.p (PR.move rfl) rfl ?_
  refine J.p (PR.lss rfl rfl) rfl ?_
  refine J.nil ?_
  refine EJ.thenN (hK5 ?_)
  refine CJ.condD rfl (fun h11 => ?_) (fun h11 => ?_)
  ·
    refine CJ.seq fun _ hK6 _ => ?_
    refine CJ.region ?_
    refine J.p (PR.assign rfl) rfl ?_
    refine J.nil ?_
    refine EJ.thenN (hK6 ?_)
    refine CJ.ret ?_
    refine EJ.thenR ?_
    refine EJ.ret1 rfl (Res.tmp rfl) fun w hH => ?_
    replace hH := hH.tail
    first | exact ⟨rfl, hH.below⟩ | exact absurd rfl h11p | exact absurd rfl h11 | (exfalso; omega) | (simp at h11; done)
  ·
    have hsz : ad.length + af.length + tot af ≤ 1048576 := by unfold szv at h11; split at h11 <;> omega
    have hl6 : ∀ i, i < af.length → (fm af i).length ≤ 1048576 := fun i hi => by have := tot_fm hi; omega
    refine CJ.skip ?_
    refine EJ.thenN (hK4 ?_)
    refine CJ.seq fun _ hK7 _ => ?_
    refine CJ.region ?_
    refine J.p (PR.loadAll rfl At.z (by simpa [*] using ag49)) rfl ?_
    refine J.call fn35 rfl rfl fun w hH => (toAlgebra_c had haf (by omega) hl6 hH).mono ?_
    rintro _ w ⟨qdo21, cdo21, qfo21, cfo21, vso21, rfl, hH⟩
    refine ⟨_, rfl, fun a hF => J.of hF hH ?_⟩
    refine J.call fn43 rfl rfl fun w hH => hH.lend .z fun Hl1 hle1 hA1 hB1 hH => hH.lend .z fun Hl2 hle2 hA2 hB2 hH => (sRanksOf_c ((own_ints hA1).le hle2) (own_forms haf.wfss hA2) (by omega) (by omega) hl6 hH).mono ?_
    rintro _ w ⟨qo22, co22, rfl, hH⟩
    replace hH := hB2 _ _ hH
    replace hH := hB1 _ _ hH
    refine ⟨_, rfl, fun a hF => J.of hF hH ?_⟩
    refine J.p (PR.move rfl) rfl ?_
    refine J.p (PR.extract rfl rfl) rfl ?_
    refine J.p (PR.extract rfl rfl) rfl ?_
    refine J.p (PR.assign rfl) rfl ?_
    refine J.p (PR.assign rfl) rfl ?_
    refine J.nil ?_
    refine EJ.thenN (hK7 ?_)
    refine CJ.seq fun _ hK8 _ => ?_
    refine CJ.region ?_
    refine J.p (PR.loadAll rfl (.s (.s (.s .z))) (by simpa [*] using ag49)) rfl ?_
    refine J.call fn35 rfl rfl fun w hH => (toAlgebra_c had haf (by omega) hl6 hH).mono ?_
    rintro _ w ⟨qdo26, cdo26, qfo26, cfo26, vso26, rfl, hH⟩
    refine ⟨_, rfl, fun a hF => J.of hF hH ?_⟩
    refine J.alloc ze41 rfl fun g6 => ?_
    refine J.storeAll rfl rfl (by first | exact bytesC_one _ | exact intsC_one _ | exact Term.c_one _ | simp [Value.oneCell']) (by simpa [*] using sz41) (by simp [*]) At.z ?_
    refine J.nil ?_
    refine EJ.thenN (hK8 ?_)
    refine CJ.seq fun _ hK9 _ => ?_
    refine CJ.region ?_
    refine J.p (PR.loadAll rfl At.z (by simpa [*] using ag41)) rfl ?_
    refine J.call fn44 rfl rfl fun w hH => hH.lend (.s .z) fun Hl1 hle1 hA1 hB1 hH => hH.lend (.s .z) fun Hl2 hle2 hA2 hB2 hH => (RanksOf_c ((own_ints hA1).le hle2) (own_forms haf.wfss hA2) (by omega) (by omega) hl6 hH).mono ?_
    rintro _ w ⟨qo29, co29, rfl, hH⟩
    replace hH := hB2 _ _ hH
    replace hH := hB1 _ _ hH
    refine ⟨_, rfl, fun a hF => J.of hF hH ?_⟩
    refine J.p (PR.move rfl) rfl ?_
    refine J.p (PR.extract rfl rfl) rfl ?_
    refine J.p (PR.extract rfl rfl) rfl ?_
    refine J.p (PR.assign rfl) rfl ?_
    refine J.p (PR.assign rfl) rfl ?_
    refine J.nil ?_
    refine EJ.thenN (hK9 ?_)
    refine CJ.seq fun _ hK10 _ => ?_
    refine CJ.seq fun _ hK11 _ => ?_
    refine CJ.region ?_
    refine J.p (PR.move rfl) rfl ?_
    refine J.p (PR.move rfl) rfl ?_
    refine J.call fn24 rfl rfl fun w hH => hH.lend (.s (.s .z)) fun Hl1 hle1 hA1 hB1 hH => hH.lend (.s (.s (.s (.s (.s .z))))) fun Hl2 hle2 hA2 hB2 hH => (eqInt64S_c ((own_ints hA1).le hle2) (own_ints hA2) (by omega) hH).mono ?_
    rintro _ w ⟨rfl, hH⟩
    replace hH := hB2 _ _ hH
    replace hH := hB1 _ _ hH
    refine ⟨_, rfl, fun a hF => J.of hF hH ?_⟩
    refine J.p (PR.not rfl) rfl ?_
    refine J.p (PR.move rfl) rfl ?_
    refine J.splitB (jd := 36) rfl (fun hg36 => ?_) (fun hg36 => ?_)
    ·
      try have hg36p := of_decide_eq_true hg36
      refine J.gn rfl rfl rfl hg36 ?_
      refine J.gn rfl rfl rfl hg36 ?_
      refine J.gn rfl rfl rfl hg36 ?_
      refine J.p (PR.pickT rfl hg36 rfl) rfl ?_
      refine J.nil ?_
      refine EJ.thenN (hK11 ?_)
      refine CJ.condT rfl ?_
      refine CJ.seq fun _ hK12 _ => ?_
      refine CJ.region ?_
      refine J.p (PR.assign rfl) rfl ?_
      refine J.nil ?_
      refine EJ.thenN (hK12 ?_)
      refine CJ.ret ?_
      refine EJ.thenR ?_
      refine EJ.ret1 rfl (Res.tmp rfl) fun w hH => ?_
      replace hH := hH.tail
      replace hH := hH.tail
      replace hH := hH.tail
      replace hH := hH.tail
      replace hH := hH.tail
      replace hH := hH.tail
      replace hH := hH.tail
      replace hH := hH.tail
      first | exact ⟨rfl, hH.below⟩ | exact absurd rfl hg36p | exact absurd rfl hg36 | (exfalso; omega) | (simp at hg36; done)
    ·
      try have hg36p := of_decide_eq_false hg36
      refine J.gy (PR.move rfl) rfl rfl rfl hg36 ?_
      refine J.gy (PR.move rfl) rfl rfl rfl hg36 ?_
      refine J.gy (PR.neq rfl rfl) rfl rfl rfl hg36 ?_
      refine J.p (PR.pickF rfl hg36 rfl) rfl ?_
      refine J.nil ?_
      refine EJ.thenN (hK11 ?_)
      refine CJ.condD rfl (fun hc40 => ?_) (fun hc40 => ?_)
      ·
        refine CJ.seq fun _ hK13 _ => ?_
        refine CJ.region ?_
        refine J.p (PR.assign rfl) rfl ?_
        refine J.nil ?_
        refine EJ.thenN (hK13 ?_)
        refine CJ.ret ?_
        refine EJ.thenR ?_
        refine EJ.ret1 rfl (Res.tmp rfl) fun w hH => ?_
        replace hH := hH.tail
        replace hH := hH.tail
        replace hH := hH.tail
        replace hH := hH.tail
        replace hH := hH.tail
        replace hH := hH.tail
        replace hH := hH.tail
        replace hH := hH.tail
        first | exact ⟨rfl, hH.below⟩ | exact absurd rfl hc40p | exact absurd rfl hc40 | (exfalso; omega) | (simp at hc40; done)
      ·
        refine CJ.skip ?_
        refine EJ.thenN (hK10 ?_)
        refine CJ.seq fun _ hK14 _ => ?_
        refine CJ.seq fun _ hK15 _ => ?_
        refine CJ.openR (Rs := [_, _, _, _, _, _, _, _]) 5 [[], [], [1], [0, 1, 2], [0, 1, 2, 3]] [[9], [12], [], [2, 7, 8], []] [[], [], [], [], []] rfl rfl (by kernel_rfl) ?_
        apply GJ.st0 1 rfl
        · intro gh; conv => lhs; simp only [slotsZ, zlAt, vs0, resL, at2, eq_self, Nat.reduceEqDiff, reduceIte, Nat.reduceSub, Nat.reduceAdd, List.cons_append, List.nil_append]
          all_goals rfl
        · intro gh X; conv => lhs; simp only [slotsZ, zlAt, vs0, resL, at2, eq_self, Nat.reduceEqDiff, reduceIte, Nat.reduceSub, Nat.reduceAdd, List.cons_append, List.nil_append]
          all_goals rfl
        · intro gh X; conv => lhs; simp only [slotsZ, zlAt, vs0, resL, at2, eq_self, Nat.reduceEqDiff, reduceIte, Nat.reduceSub, Nat.reduceAdd, List.cons_append, List.nil_append]
          all_goals rfl
        ·
          intro gh X K zq zc zq2 zc2 zb zv hK
          refine J.p (PR.loadAll rfl At.z (by simpa [*] using ag41)) rfl ?_
          refine J.nilK ?_
          exact hK zq zc zq2 zc2 zb zv
        ·
          intro gh gh' h
          rfl
        apply GJ.st0 2 rfl
        · intro gh; conv => lhs; simp only [slotsZ, zlAt, vs0, resL, at2, eq_self, Nat.reduceEqDiff, reduceIte, Nat.reduceSub, Nat.reduceAdd, List.cons_append, List.nil_append]
          all_goals rfl
        · intro gh X; conv => lhs; simp only [slotsZ, zlAt, vs0, resL, at2, eq_self, Nat.reduceEqDiff, reduceIte, Nat.reduceSub, Nat.reduceAdd, List.cons_append, List.nil_append]
          all_goals rfl
        · intro gh X; conv => lhs; simp only [slotsZ, zlAt, vs0, resL, at2, eq_self, Nat.reduceEqDiff, reduceIte, Nat.reduceSub, Nat.reduceAdd, List.cons_append, List.nil_append]
          all_goals rfl
        ·
          intro gh X K zq zc zq2 zc2 zb zv hK
          refine J.p (PR.loadAll rfl At.z (by simpa [*] using ag49)) rfl ?_
          refine J.nilK ?_
          exact hK zq zc zq2 zc2 zb zv
        ·
          intro gh gh' h
          rfl
        apply GJ.st2 3 rfl
        · intro gh; conv => lhs; simp only [slotsZ, zlAt, vs0, resL, at2, eq_self, Nat.reduceEqDiff, reduceIte, Nat.reduceSub, Nat.reduceAdd, List.cons_append, List.nil_append]
          all_goals rfl
        · intro gh X; conv => lhs; simp only [slotsZ, zlAt, vs0, resL, at2, eq_self, Nat.reduceEqDiff, reduceIte, Nat.reduceSub, Nat.reduceAdd, List.cons_append, List.nil_append]
          all_goals rfl
        · intro gh X; conv => lhs; simp only [slotsZ, zlAt, vs0, resL, at2, eq_self, Nat.reduceEqDiff, reduceIte, Nat.reduceSub, Nat.reduceAdd, List.cons_append, List.nil_append]
          all_goals rfl
        ·
          intro gh X K zq zc zq2 zc2 zb zv hK
          refine J.call fn35 rfl rfl fun w hH => (toAlgebra_c had haf (by omega) hl6 hH).mono ?_
          rintro _ w ⟨qdo43, cdo43, qfo43, cfo43, vso43, rfl, hH⟩
          refine ⟨_, rfl, fun a hF => J.of hF hH ?_⟩
          refine J.nilK ?_
          exact hK qdo43 cdo43 qfo43 cfo43 zb vso43
        ·
          intro gh gh' h
          refine ⟨?_, ?_, ?_⟩ <;> rfl
        apply GJ.st0 4 rfl
        · intro gh; conv => lhs; simp only [slotsZ, zlAt, vs0, resL, at2, eq_self, Nat.reduceEqDiff, reduceIte, Nat.reduceSub, Nat.reduceAdd, List.cons_append, List.nil_append]
          all_goals rfl
        · intro gh X; conv => lhs; simp only [slotsZ, zlAt, vs0, resL, at2, eq_self, Nat.reduceEqDiff, reduceIte, Nat.reduceSub, Nat.reduceAdd, List.cons_append, List.nil_append]
          all_goals rfl
        · intro gh X; conv => lhs; simp only [slotsZ, zlAt, vs0, resL, at2, eq_self, Nat.reduceEqDiff, reduceIte, Nat.reduceSub, Nat.reduceAdd, List.cons_append, List.nil_append]
          all_goals rfl
        ·
          intro gh X K zq zc zq2 zc2 zb zv hK
          refine J.call fn30 rfl rfl fun w hH => hH.lend (.s (.s .z)) fun Hl1 hle1 hA1 hB1 hH => hH.lend (.s (.s .z)) fun Hl2 hle2 hA2 hB2 hH => hH.lend .z fun Hl3 hle3 hA3 hB3 hH => hH.lend .z fun Hl4 hle4 hA4 hB4 hH => (eqAlgebra_c ((((own_ints hA1).le hle2).le hle3).le hle4) (((own_forms haf.wfss hA2).le hle3).le hle4) ((own_ints hA3).le hle4) (own_forms haf.wfss hA4) (by omega) (by omega) hl hH).mono ?_
          rintro _ w ⟨rfl, hH⟩
          replace hH := hB4 _ _ hH
          replace hH := hB3 _ _ hH
          replace hH := hB2 _ _ hH
          replace hH := hB1 _ _ hH
          refine ⟨_, rfl, fun a hF => J.of hF hH ?_⟩
          refine EJ.front (.s .z) ?_
          refine EJ.front (.s .z) ?_
          refine EJ.front (.s (.s (.s .z))) ?_
          refine EJ.front (.s (.s (.s .z))) ?_
          refine J.nilK ?_
          exact hK zq zc zq2 zc2 zb zv
        ·
          intro gh gh' h
          first | simp only [h 2 rfl] | rfl
        apply GJ.st0 5 rfl
        · intro gh; conv => lhs; simp only [slotsZ, zlAt, vs0, resL, at2, eq_self, Nat.reduceEqDiff, reduceIte, Nat.reduceSub, Nat.reduceAdd, List.cons_append, List.nil_append]
          all_goals rfl
        · intro gh X; conv => lhs; simp only [slotsZ, zlAt, vs0, resL, at2, eq_self, Nat.reduceEqDiff, reduceIte, Nat.reduceSub, Nat.reduceAdd, List.cons_append, List.nil_append]
          all_goals rfl
        · intro gh X; conv => lhs; simp only [slotsZ, zlAt, vs0, resL, at2, eq_self, Nat.reduceEqDiff, reduceIte, Nat.reduceSub, Nat.reduceAdd, List.cons_append, List.nil_append]
          all_goals rfl
        ·
          intro gh X K zq zc zq2 zc2 zb zv hK
          refine J.p (PR.not rfl) rfl ?_
          refine J.nilK ?_
          exact hK zq zc zq2 zc2 zb zv
        ·
          intro gh gh' h
          first | simp only [h 2 rfl] | rfl
        apply GJ.close [0, 1, 2, 3, 4] [0, 1, 2, 3, 4, 5, 6, 7, 8, 9, 10, 11, 12] foll0 rfl rfl rfl (by rfl)
        · intro gh; conv => lhs; simp only [slotsZ, zlAt, vs0, resL, at2, eq_self, Nat.reduceEqDiff, reduceIte, Nat.reduceSub, Nat.reduceAdd, List.cons_append, List.nil_append]
          all_goals rfl
        · intro gh; conv => lhs; simp only [slotsZ, zlAt, vs0, resL, at2, eq_self, Nat.reduceEqDiff, reduceIte, Nat.reduceSub, Nat.reduceAdd, List.cons_append, List.nil_append]
          all_goals rfl
        intro gh
        generalize (gh 2).c = cdo43
        generalize (gh 2).c2 = cfo43
        generalize (gh 2).q = qdo43
        generalize (gh 2).q2 = qfo43
        generalize (gh 2).vs = vso43
        clear gh
        refine EJ.thenN (hK15 ?_)
        refine CJ.cond rfl (fun hc45 => ?_) (fun hc45 => ?_)
        ·
          refine CJ.seq fun _ hK16 _ => ?_
          refine CJ.region ?_
          refine J.p (PR.assign rfl) rfl ?_
          refine J.nil ?_
          refine EJ.thenN (hK16 ?_)
          refine CJ.ret ?_
          refine EJ.thenR ?_
          refine EJ.ret1 rfl (Res.tmp rfl) fun w hH => ?_
          replace hH := hH.tail
          replace hH := hH.tail
          replace hH := hH.tail
          replace hH := hH.tail
          replace hH := hH.tail
          replace hH := hH.tail
          replace hH := hH.tail
          replace hH := hH.tail
          replace hH := hH.tail
          replace hH := hH.tail
          first | exact ⟨rfl, hH.below⟩ | exact absurd rfl hc45p | exact absurd rfl hc45 | (exfalso; omega) | (simp at hc45; done)
        ·
          refine CJ.skip ?_
          refine EJ.thenN (hK14 ?_)
          refine CJ.seq fun _ hK17 _ => ?_
          refine CJ.region ?_
          refine J.p (PR.assign rfl) rfl ?_
          refine J.nil ?_
          refine EJ.thenN (hK17 ?_)
          refine CJ.seq fun _ hK18 _ => ?_
          refine CJ.region ?_
          refine J.p (PR.loadAll rfl (.s (.s (.s (.s (.s (.s .z)))))) (by simpa [*] using ag41)) rfl ?_
          refine J.p (PR.move rfl) rfl ?_
          refine J.call fn31 rfl rfl fun w hH => (markAlgebra_c (by omega) (by omega) ((hH.front (.s (.s (.s (.s (.s .z)))))).front (.s (.s (.s (.s (.s .z))))))).mono ?_
          rintro _ w ⟨rfl, hH⟩
          refine ⟨_, rfl, fun a hF => J.of hF hH ?_⟩
          refine J.p (PR.assign rfl) rfl ?_
          refine J.nil ?_
          refine EJ.thenN (hK18 ?_)
          refine CJ.seq fun _ hK19 _ => ?_
          refine CJ.seq fun _ hK20 _ => ?_
          refine CJ.region ?_
          refine J.p (PR.move rfl) rfl ?_
          refine J.p (PR.lss rfl rfl) rfl ?_
          refine J.p (PR.move rfl) rfl ?_
          refine J.splitB (jd := 51) rfl (fun hg51 => ?_) (fun hg51 => ?_)
          ·
            try have hg51p := of_decide_eq_true hg51
            refine J.gn rfl rfl rfl hg51 ?_
            refine J.gn rfl rfl rfl hg51 ?_
            refine J.gn rfl rfl rfl hg51 ?_
            refine J.gn rfl rfl rfl hg51 ?_
            refine J.p (PR.pickT rfl hg51 rfl) rfl ?_
            refine J.p (PR.move rfl) rfl ?_
            refine J.gn rfl rfl rfl rfl ?_
            refine J.gn rfl rfl rfl rfl ?_
            refine J.gn rfl rfl rfl rfl ?_
            refine J.p (PR.pickT rfl rfl rfl) rfl ?_
            refine J.nil ?_
            refine EJ.thenN (hK20 ?_)
            refine CJ.condT rfl ?_
            refine CJ.seq fun _ hK21 _ => ?_
            refine CJ.region ?_
            refine J.p (PR.assign rfl) rfl ?_
            refine J.nil ?_
            refine EJ.thenN (hK21 ?_)
            refine CJ.ret ?_
            refine EJ.thenR ?_
            refine EJ.ret1 rfl (Res.tmp rfl) fun w hH => ?_
            replace hH := hH.tail
            replace hH := hH.tail
            replace hH := hH.tail
            replace hH := hH.tail
            replace hH := hH.tail
            replace hH := hH.tail
            replace hH := hH.tail
            replace hH := hH.tail
            replace hH := hH.tail
            replace hH := hH.tail
            first | exact ⟨rfl, hH.below⟩ | exact absurd rfl hg51p | exact absurd rfl hg51 | (exfalso; omega) | (simp at hg51; done)
          ·
            try have hg51p := of_decide_eq_false hg51
            refine J.gy (PR.move rfl) rfl rfl rfl hg51 ?_
            refine J.gy (PR.move rfl) rfl rfl rfl hg51 ?_
            refine J.gcall fn24 rfl rfl hg51 rfl rfl fun w hH => hH.lend (.s (.s (.s (.s .z)))) fun Hl1 hle1 hA1 hB1 hH => hH.lend (.s (.s (.s (.s .z)))) fun Hl2 hle2 hA2 hB2 hH => (eqInt64S_c ((own_ints hA1).le hle2) (own_ints hA2) (by omega) hH).mono ?_
            rintro _ w ⟨rfl, hH⟩
            replace hH := hB2 _ _ hH
            replace hH := hB1 _ _ hH
            refine ⟨_, rfl, fun a hF => J.of hF hH ?_⟩
            refine J.gy (PR.not rfl) rfl rfl rfl hg51 ?_
            refine J.p (PR.pickF rfl hg51 rfl) rfl ?_
            refine J.p (PR.move rfl) rfl ?_
            refine J.splitB (jd := 57) rfl (fun hg57 => ?_) (fun hg57 => ?_)
            ·
              try have hg57p := of_decide_eq_true hg57
              refine J.gn rfl rfl rfl hg57 ?_
              refine J.gn rfl rfl rfl hg57 ?_
              refine J.gn rfl rfl rfl hg57 ?_
              refine J.p (PR.pickT rfl hg57 rfl) rfl ?_
              refine J.nil ?_
              refine EJ.thenN (hK20 ?_)
              refine CJ.condT rfl ?_
              refine CJ.seq fun _ hK22 _ => ?_
              refine CJ.region ?_
              refine J.p (PR.assign rfl) rfl ?_
              refine J.nil ?_
              refine EJ.thenN (hK22 ?_)
              refine CJ.ret ?_
              refine EJ.thenR ?_
              refine EJ.ret1 rfl (Res.tmp rfl) fun w hH => ?_
              replace hH := hH.tail
              replace hH := hH.tail
              replace hH := hH.tail
              replace hH := hH.tail
              replace hH := hH.tail
              replace hH := hH.tail
              replace hH := hH.tail
              replace hH := hH.tail
              replace hH := hH.tail
              replace hH := hH.tail
              first | exact ⟨rfl, hH.below⟩ | exact absurd rfl hg57p | exact absurd rfl hg57 | (exfalso; omega) | (simp at hg57; done)
            ·
              try have hg57p := of_decide_eq_false hg57
              refine J.gy (PR.move rfl) rfl rfl rfl hg57 ?_
              refine J.gy (PR.move rfl) rfl rfl rfl hg57 ?_
              refine J.gy (PR.neq rfl rfl) rfl rfl rfl hg57 ?_
              refine J.p (PR.pickF rfl hg57 rfl) rfl ?_
              refine J.nil ?_
              refine EJ.thenN (hK20 ?_)
              refine CJ.condD rfl (fun hc61 => ?_) (fun hc61 => ?_)
              ·
                refine CJ.seq fun _ hK23 _ => ?_
                refine CJ.region ?_
                refine J.p (PR.assign rfl) rfl ?_
                refine J.nil ?_
                refine EJ.thenN (hK23 ?_)
                refine CJ.ret ?_
                refine EJ.thenR ?_
                refine EJ.ret1 rfl (Res.tmp rfl) fun w hH => ?_
                replace hH := hH.tail
                replace hH := hH.tail
                replace hH := hH.tail
                replace hH := hH.tail
                replace hH := hH.tail
                replace hH := hH.tail
                replace hH := hH.tail
                replace hH := hH.tail
                replace hH := hH.tail
                replace hH := hH.tail
                first | exact ⟨rfl, hH.below⟩ | exact absurd rfl hc61p | exact absurd rfl hc61 | (exfalso; omega) | (simp at hc61; done)
              ·
                refine CJ.skip ?_
                refine EJ.thenN (hK19 ?_)
                refine CJ.seq fun _ hK24 _ => ?_
                refine CJ.region ?_
                refine J.p (PR.assign rfl) rfl ?_
                refine J.nil ?_
                refine EJ.thenN (hK24 ?_)
                refine CJ.seq fun _ hK25 _ => ?_
                refine CJ.region ?_
                refine J.p (PR.move rfl) rfl ?_
                refine J.p (PR.move rfl) rfl ?_
                refine J.call fn25 rfl rfl fun w hH => (markInt64S_c (by omega) (hH.front .z)).mono ?_
                rintro _ w ⟨rfl, hH⟩
                refine ⟨_, rfl, fun a hF => J.of hF hH ?_⟩
                refine J.p (PR.assign rfl) rfl ?_
                refine J.nil ?_
                refine EJ.thenN (hK25 ?_)
                refine CJ.seq fun _ hK26 _ => ?_
                refine CJ.region ?_
                refine J.p (PR.assign rfl) rfl ?_
                refine J.nil ?_
                refine EJ.thenN (hK26 ?_)
                refine CJ.seq fun _ hK27 _ => ?_
                refine CJ.region ?_
                refine J.p (PR.move rfl) rfl ?_
                refine J.p (PR.move rfl) rfl ?_
                refine J.call fn45 rfl rfl fun w hH => hH.lend .z fun Hl1 hle1 hA1 hB1 hH => (heldInt64S_c (own_mints hA1) (by omega) hH).mono ?_
                rintro _ w ⟨rfl, hH⟩
                replace hH := hB1 _ _ hH
                refine ⟨_, rfl, fun a hF => J.of hF hH ?_⟩
                refine J.p (PR.assign rfl) rfl ?_
                refine J.nil ?_
                refine EJ.thenN (hK27 ?_)
                refine CJ.seq fun _ hK28 _ => ?_
                refine CJ.seq fun _ hK29 _ => ?_
                refine CJ.region ?_
                refine J.p (PR.move rfl) rfl ?_
                refine J.p (PR.lss rfl rfl) rfl ?_
                refine J.nil ?_
                refine EJ.thenN (hK29 ?_)
                refine CJ.condD rfl (fun hc69 => ?_) (fun hc69 => ?_)
                ·
                  refine CJ.seq fun _ hK30 _ => ?_
                  refine CJ.region ?_
                  refine J.p (PR.assign rfl) rfl ?_
                  refine J.nil ?_
                  refine EJ.thenN (hK30 ?_)
                  refine CJ.ret ?_
                  refine EJ.thenR ?_
                  refine EJ.ret1 rfl (Res.tmp rfl) fun w hH => ?_
                  replace hH := hH.tail
                  replace hH := hH.tail
                  replace hH := hH.tail
                  replace hH := hH.tail
                  replace hH := hH.tail
                  replace hH := hH.tail
                  replace hH := hH.tail
                  replace hH := hH.tail
                  replace hH := hH.tail
                  replace hH := hH.tail
                  first | exact ⟨rfl, hH.below⟩ | exact absurd rfl hc69p | exact absurd rfl hc69 | (exfalso; omega) | (simp at hc69; done)
                ·
                  refine CJ.skip ?_
                  refine EJ.thenN (hK28 ?_)
                  refine CJ.seq fun _ hK31 _ => ?_
                  refine CJ.seq fun _ hK32 _ => ?_
                  refine CJ.region ?_
                  refine J.p (PR.move rfl) rfl ?_
                  refine J.p (PR.move rfl) rfl ?_
                  refine J.p (PR.neq rfl rfl) rfl ?_
                  refine J.nil ?_
                  refine EJ.thenN (hK32 ?_)
                  refine CJ.condD rfl (fun hc72 => ?_) (fun hc72 => ?_)
                  ·
                    refine CJ.seq fun _ hK33 _ => ?_
                    refine CJ.region ?_
                    refine J.p (PR.assign rfl) rfl ?_
                    refine J.nil ?_
                    refine EJ.thenN (hK33 ?_)
                    refine CJ.ret ?_
                    refine EJ.thenR ?_
                    refine EJ.ret1 rfl (Res.tmp rfl) fun w hH => ?_
                    replace hH := hH.tail
                    replace hH := hH.tail
                    replace hH := hH.tail
                    replace hH := hH.tail
                    replace hH := hH.tail
                    replace hH := hH.tail
                    replace hH := hH.tail
                    replace hH := hH.tail
                    replace hH := hH.tail
                    replace hH := hH.tail
                    first | exact ⟨rfl, hH.below⟩ | exact absurd rfl hc72p | exact absurd rfl hc72 | (exfalso; omega) | (simp at hc72; done)
                  ·
                    refine CJ.skip ?_
                    refine EJ.thenN (hK31 ?_)
                    refine CJ.seq fun _ hK34 _ => ?_
                    refine CJ.region ?_
                    refine J.p (PR.loadAll rfl (.s (.s (.s (.s (.s (.s (.s (.s (.s .z))))))))) (by simpa [*] using ag49)) rfl ?_
                    refine J.call fn35 rfl rfl fun w hH => (toAlgebra_c had haf (by omega) hl6 hH).mono ?_
                    rintro _ w ⟨qdo75, cdo75, qfo75, cfo75, vso75, rfl, hH⟩
                    refine ⟨_, rfl, fun a hF => J.of hF hH ?_⟩
                    refine J.call fn44 rfl rfl fun w hH => hH.lend .z fun Hl1 hle1 hA1 hB1 hH => hH.lend .z fun Hl2 hle2 hA2 hB2 hH => (RanksOf_c ((own_ints hA1).le hle2) (own_forms haf.wfss hA2) (by omega) (by omega) hl6 hH).mono ?_
                    rintro _ w ⟨qo76, co76, rfl, hH⟩
                    replace hH := hB2 _ _ hH
                    replace hH := hB1 _ _ hH
                    refine ⟨_, rfl, fun a hF => J.of hF hH ?_⟩
                    refine J.p (PR.move rfl) rfl ?_
                    refine J.p (PR.extract rfl rfl) rfl ?_
                    refine J.p (PR.extract rfl rfl) rfl ?_
                    refine J.p (PR.assign rfl) rfl ?_
                    refine J.p (PR.assign rfl) rfl ?_
                    refine J.nil ?_
                    refine EJ.thenN (hK34 ?_)
                    refine CJ.seq fun _ hK35 _ => ?_
                    refine CJ.seq fun _ hK36 _ => ?_
                    refine CJ.region ?_
                    refine J.p (PR.move rfl) rfl ?_
                    refine J.p (PR.move rfl) rfl ?_
                    refine J.call fn24 rfl rfl fun w hH => hH.lend (.s (.s .z)) fun Hl1 hle1 hA1 hB1 hH => hH.lend (.s (.s (.s .z))) fun Hl2 hle2 hA2 hB2 hH => (eqInt64S_c ((own_ints hA1).le hle2) (own_ints hA2) (by omega) hH).mono ?_
                    rintro _ w ⟨rfl, hH⟩
                    replace hH := hB2 _ _ hH
                    replace hH := hB1 _ _ hH
                    refine ⟨_, rfl, fun a hF => J.of hF hH ?_⟩
                    refine J.p (PR.not rfl) rfl ?_
                    refine J.p (PR.move rfl) rfl ?_
                    refine J.splitB (jd := 83) rfl (fun hg83 => ?_) (fun hg83 => ?_)
                    ·
                      try have hg83p := of_decide_eq_true hg83
                      refine J.gn rfl rfl rfl hg83 ?_
                      refine J.gn rfl rfl rfl hg83 ?_
                      refine J.gn rfl rfl rfl hg83 ?_
                      refine J.p (PR.pickT rfl hg83 rfl) rfl ?_
                      refine J.nil ?_
                      refine EJ.thenN (hK36 ?_)
                      refine CJ.condT rfl ?_
                      refine CJ.seq fun _ hK37 _ => ?_
                      refine CJ.region ?_
                      refine J.p (PR.assign rfl) rfl ?_
                      refine J.nil ?_
                      refine EJ.thenN (hK37 ?_)
                      refine CJ.ret ?_
                      refine EJ.thenR ?_
                      refine EJ.ret1 rfl (Res.tmp rfl) fun w hH => ?_
                      replace hH := hH.tail
                      replace hH := hH.tail
                      replace hH := hH.tail
                      replace hH := hH.tail
                      replace hH := hH.tail
                      replace hH := hH.tail
                      replace hH := hH.tail
                      replace hH := hH.tail
                      replace hH := hH.tail
                      replace hH := hH.tail
                      replace hH := hH.tail
                      replace hH := hH.tail
                      replace hH := hH.tail
                      first | exact ⟨rfl, hH.below⟩ | exact absurd rfl hg83p | exact absurd rfl hg83 | (exfalso; omega) | (simp at hg83; done)
                    ·
                      try have hg83p := of_decide_eq_false hg83
                      refine J.gy (PR.move rfl) rfl rfl rfl hg83 ?_
                      refine J.gy (PR.move rfl) rfl rfl rfl hg83 ?_
                      refine J.gy (PR.neq rfl rfl) rfl rfl rfl hg83 ?_
                      refine J.p (PR.pickF rfl hg83 rfl) rfl ?_
                      refine J.nil ?_
                      refine EJ.thenN (hK36 ?_)
                      refine CJ.condD rfl (fun hc87 => ?_) (fun hc87 => ?_)
                      ·
                        refine CJ.seq fun _ hK38 _ => ?_
                        refine CJ.region ?_
                        refine J.p (PR.assign rfl) rfl ?_
                        refine J.nil ?_
                        refine EJ.thenN (hK38 ?_)
                        refine CJ.ret ?_
                        refine EJ.thenR ?_
                        refine EJ.ret1 rfl (Res.tmp rfl) fun w hH => ?_
                        replace hH := hH.tail
                        replace hH := hH.tail
                        replace hH := hH.tail
                        replace hH := hH.tail
                        replace hH := hH.tail
                        replace hH := hH.tail
                        replace hH := hH.tail
                        replace hH := hH.tail
                        replace hH := hH.tail
                        replace hH := hH.tail
                        replace hH := hH.tail
                        replace hH := hH.tail
                        replace hH := hH.tail
                        first | exact ⟨rfl, hH.below⟩ | exact absurd rfl hc87p | exact absurd rfl hc87 | (exfalso; omega) | (simp at hc87; done)
                      ·
                        refine CJ.skip ?_
                        refine EJ.thenN (hK35 ?_)
                        refine CJ.seq fun _ hK39 _ => ?_
                        refine CJ.region ?_
                        refine J.p (PR.assign rfl) rfl ?_
                        refine J.nil ?_
                        refine EJ.thenN (hK39 ?_)
                        refine CJ.seq fun _ hK40 _ => ?_
                        refine CJ.region ?_
                        refine J.p (PR.move rfl) rfl ?_
                        refine J.p (PR.move rfl) rfl ?_
                        refine J.call fn45 rfl rfl fun w hH => hH.lend (.s (.s (.s (.s .z)))) fun Hl1 hle1 hA1 hB1 hH => (heldInt64S_c (own_mints hA1) (by omega) hH).mono ?_
                        rintro _ w ⟨rfl, hH⟩
                        replace hH := hB1 _ _ hH
                        refine ⟨_, rfl, fun a hF => J.of hF hH ?_⟩
                        refine J.p (PR.assign rfl) rfl ?_
                        refine J.nil ?_
                        refine EJ.thenN (hK40 ?_)
                        refine CJ.seq fun _ hK41 _ => ?_
                        refine CJ.seq fun _ hK42 _ => ?_
                        refine CJ.region ?_
                        refine J.p (PR.move rfl) rfl ?_
                        refine J.p (PR.lss rfl rfl) rfl ?_
                        refine J.nil ?_
                        refine EJ.thenN (hK42 ?_)
                        refine CJ.condD rfl (fun hc92 => ?_) (fun hc92 => ?_)
                        ·
                          refine CJ.seq fun _ hK43 _ => ?_
                          refine CJ.region ?_
                          refine J.p (PR.assign rfl) rfl ?_
                          refine J.nil ?_
                          refine EJ.thenN (hK43 ?_)
                          refine CJ.ret ?_
                          refine EJ.thenR ?_
                          refine EJ.ret1 rfl (Res.tmp rfl) fun w hH => ?_
                          replace hH := hH.tail
                          replace hH := hH.tail
                          replace hH := hH.tail
                          replace hH := hH.tail
                          replace hH := hH.tail
                          replace hH := hH.tail
                          replace hH := hH.tail
                          replace hH := hH.tail
                          replace hH := hH.tail
                          replace hH := hH.tail
                          replace hH := hH.tail
                          replace hH := hH.tail
                          replace hH := hH.tail
                          first | exact ⟨rfl, hH.below⟩ | exact absurd rfl hc92p | exact absurd rfl hc92 | (exfalso; omega) | (simp at hc92; done)
                        ·
                          refine CJ.skip ?_
                          refine EJ.thenN (hK41 ?_)
                          refine CJ.seq fun _ hK44 _ => ?_
                          refine CJ.seq fun _ hK45 _ => ?_
                          refine CJ.region ?_
                          refine J.p (PR.move rfl) rfl ?_
                          refine J.p (PR.move rfl) rfl ?_
                          refine J.p (PR.neq rfl rfl) rfl ?_
                          refine J.nil ?_
                          refine EJ.thenN (hK45 ?_)
                          refine CJ.condD rfl (fun hc95 => ?_) (fun hc95 => ?_)
                          ·
                            refine CJ.seq fun _ hK46 _ => ?_
                            refine CJ.region ?_
                            refine J.p (PR.assign rfl) rfl ?_
                            refine J.nil ?_
                            refine EJ.thenN (hK46 ?_)
                            refine CJ.ret ?_
                            refine EJ.thenR ?_
                            refine EJ.ret1 rfl (Res.tmp rfl) fun w hH => ?_
                            replace hH := hH.tail
                            replace hH := hH.tail
                            replace hH := hH.tail
                            replace hH := hH.tail
                            replace hH := hH.tail
                            replace hH := hH.tail
                            replace hH := hH.tail
                            replace hH := hH.tail
                            replace hH := hH.tail
                            replace hH := hH.tail
                            replace hH := hH.tail
                            replace hH := hH.tail
                            replace hH := hH.tail
                            first | exact ⟨rfl, hH.below⟩ | exact absurd rfl hc95p | exact absurd rfl hc95 | (exfalso; omega) | (simp at hc95; done)
                          ·
                            refine CJ.skip ?_
                            refine EJ.thenN (hK44 ?_)
                            refine CJ.seq fun _ hK47 _ => ?_
                            refine CJ.region ?_
                            refine J.p (PR.assign rfl) rfl ?_
                            refine J.nil ?_
                            refine EJ.thenN (hK47 ?_)
                            refine CJ.ret ?_
                            refine EJ.ret1 rfl (Res.tmp rfl) fun w hH => ?_
                            replace hH := hH.tail
                            replace hH := hH.tail
                            replace hH := hH.tail
                            replace hH := hH.tail
                            replace hH := hH.tail
                            replace hH := hH.tail
                            replace hH := hH.tail
                            replace hH := hH.tail
                            replace hH := hH.tail
                            replace hH := hH.tail
                            replace hH := hH.tail
                            replace hH := hH.tail
                            replace hH := hH.tail
                            first | exact ⟨rfl, hH.below⟩ | exact absurd rfl hc95p | exact absurd rfl hc95 | (exfalso; omega) | (simp at hc95; done)
end Go.Proofs.Ytpojpokldncglaa.G
namespace Go.Proofs.Ytpojpokldncglaa.fnExactRanksOf
open Go.ChangeShapes Go.WideShapes Go.ChangeAt Go.RowKit
open Go.Proofs.Ytpojpokldncglaa.G
theorem u49 : Try.prog.underlying 49 = some (TypeDesc.struct #[{ name := "Degrees", type := 22, offset := 0, embedded := false, tag := "", pkgPath := "", byteOffset := 0 }, { name := "Images", type := 47, offset := 1, embedded := false, tag := "", pkgPath := "", byteOffset := 24 }]) := by kernel_rfl
theorem u22 : Try.prog.underlying 22 = some (TypeDesc.slice 2) := by kernel_rfl
theorem u2 : Try.prog.underlying 2 = some (TypeDesc.int .i64) := by kernel_rfl
theorem u47 : Try.prog.underlying 47 = some (TypeDesc.slice 25) := by kernel_rfl
theorem u25 : Try.prog.underlying 25 = some (TypeDesc.struct #[{ name := "Terms", type := 23, offset := 0, embedded := false, tag := "", pkgPath := "", byteOffset := 0 }]) := by kernel_rfl
theorem u23 : Try.prog.underlying 23 = some (TypeDesc.slice 139) := by kernel_rfl
theorem u139 : Try.prog.underlying 139 = some (TypeDesc.struct #[{ name := "Monomial", type := 85, offset := 0, embedded := false, tag := "", pkgPath := "", byteOffset := 0 }, { name := "Factor", type := 2, offset := 8, embedded := false, tag := "", pkgPath := "", byteOffset := 8 }]) := by kernel_rfl
theorem u85 : Try.prog.underlying 85 = some (TypeDesc.array 8 5) := by kernel_rfl
theorem u5 : Try.prog.underlying 5 = some (TypeDesc.int .u8) := by kernel_rfl
theorem u4 : Try.prog.underlying 4 = some (TypeDesc.bool) := by kernel_rfl
theorem own : ownKnob Try.prog.godebug = none := by kernel_rfl
set_option maxRecDepth 100000 in
theorem lifted (os : Os) (started : os.Started) (H : Type) (enc : TypeId × Value → H) :
    ReturnsInHanded {} Try.checked os 9 .any (Rows.fnExactRanksOfSpec.pre6 enc Try.prog Try.f9 Rows.fnExactRanksOfRow.domain false) (Rows.fnExactRanksOfSpec.post enc Try.prog Try.f9 false true false false) := by
  refine returnsInHanded_of_change_sized (C := Try.checked) own started (by kernel_rfl) Try.func9
    (ChangeSpec.witness6 (enc := enc) (C := Try.checked) false ⟨#[], #[.agg #[.slice none 0 0, .slice none 0 0]], []⟩ 12 (by kernel_rfl) (by kernel_rfl) (by kernel_rfl) (by kernel_rfl)) ?_
  intro W base args ds gs before hval0 hW hcnd hsz0 _
  have hval : ∀ (j : Nat) t v, Try.f9.params[j]? = some t → args[j]? = some v → Value.okWide Try.prog W .any base t v := hval0
  have hW' := hW
  obtain ⟨p, q, hA0, hV, rfl, hfz, hnd⟩ := hW
  have hA : DataW.TrodAll enc Try.prog W 0 (fun _ => true) true Try.f9.params.toList args.toList ds p := hA0
  rw [Try.params9] at hA hval
  obtain ⟨v0, vs0, d0, ds0, p0, q0, hargs, rfl, rfl, h0, r0⟩ := trodAll_cons hA
  obtain ⟨rfl, rfl, rfl⟩ := trodAll_nil r0
  obtain rfl : args = #[v0] := by cases args; simp_all
  obtain ⟨rfl, rfl⟩ := trodVars_none hV
  obtain ⟨q0d, c0d, ds0, q0f, c0f, fs0, rfl, X0, F0, le0, fl0⟩ := openV_alg u49 rfl rfl rfl rfl (by kernel_rfl) (by kernel_rfl) (by kernel_rfl) u22 u2 (by kernel_rfl) u47 (by kernel_rfl) (fun n l y hy => tr_form u25 rfl rfl (by kernel_rfl) (by kernel_rfl) u23 (by kernel_rfl) u139 rfl rfl rfl rfl u85 u5 (by kernel_rfl) (by kernel_rfl) u2 (by kernel_rfl) hy) (hval 0 49 v0 rfl rfl) h0
  clear hA0 hval0 hsz0
  refine ((lawRanksOf_c X0 F0 le0 fl0 (Hp.start (H := hp W) fun _ _ h => h)).mono fun e W' ⟨he, bel⟩ => ?_)
  subst he
  exact ⟨_, rfl, law_post (f := Try.f9) (by kernel_rfl) (by kernel_rfl) rfl rfl u4 rfl hW' bel⟩
theorem joined : joinedFacts Try.prog 9 Try.f9 Rows.fnExactRanksOfSpec Rows.fnExactRanksOfRow = true := by
  unfold joinedFacts
  simp only [Bool.and_eq_true]
  repeat' apply And.intro
  all_goals first
    | with_reducible exact Facts.fEnter
    | with_reducible exact Facts.fLaid
    | with_reducible exact Facts.fMaps
    | with_reducible exact Facts.fHeard
    | (rw [Facts.fMake]; rfl)
    | (rw [Facts.fLift]; rfl)
    | (rw [Facts.fKeys]; rfl)
    | (rw [Facts.fStops]; rfl)
    | (rw [Facts.fStopK]; rfl)
    | as_aux_lemma => kernel_rfl
theorem over : Rows.fnExactRanksOfRow.holds Try.pinned (OpenSpec.ofChange Rows.fnExactRanksOfSpec) :=
  OpenClaim.holds_of_wide 9 Try.f9 rfl rfl rfl rfl rfl rfl rfl ⟨rfl, rfl, rfl, rfl, rfl⟩ rfl rfl rfl rfl rfl (by as_aux_lemma => kernel_rfl) Try.func9 joined
    (of_decide_eq_true (by as_aux_lemma => kernel_rfl)) (by unfold Func.isWrapper; first | (rw [if_pos (by decide +kernel)]; kernel_rfl) | (rw [if_neg (by decide +kernel)]; exact ⟨rfl, rfl⟩))
    (fun os started H enc _ => lifted os started H enc)
theorem proved : Rows.FnExactRanksOfSaid := over
#print axioms proved
end Go.Proofs.Ytpojpokldncglaa.fnExactRanksOf
namespace Go.Proofs.Ytpojpokldncglaa
theorem fnExactRanksOf_holds : Rows.FnExactRanksOfSaid := fnExactRanksOf.proved
end Go.Proofs.Ytpojpokldncglaa
