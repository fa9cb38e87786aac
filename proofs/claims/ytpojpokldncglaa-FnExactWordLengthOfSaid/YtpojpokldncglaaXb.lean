/- Sums added up in any order; products: plain lists, no program. No condition. -/
import Derived.Test.YtpojpokldncglaaGMap
import Derived.Test.YtpojpokldncglaaProg
import Derived.Test.YtpojpokldncglaaWa
import Derived.Test.YtpojpokldncglaaWb
import Derived.Test.YtpojpokldncglaaWc
import Derived.Test.YtpojpokldncglaaWd
import Derived.Test.YtpojpokldncglaaWe
import Derived.Test.YtpojpokldncglaaWf
import Derived.Test.YtpojpokldncglaaWg
import Derived.Test.YtpojpokldncglaaWh
import Derived.Test.YtpojpokldncglaaWi
import Derived.Test.YtpojpokldncglaaWj
import Derived.Test.YtpojpokldncglaaWk
import Derived.Test.YtpojpokldncglaaWl
import Derived.Test.YtpojpokldncglaaWm
import Derived.Test.YtpojpokldncglaaWn
import Derived.Test.YtpojpokldncglaaWo
import Derived.Test.YtpojpokldncglaaWp
import Derived.Test.YtpojpokldncglaaXa
set_option linter.unusedVariables false
set_option linter.unusedSimpArgs false
namespace Go.Proofs.Ytpojpokldncglaa.G
open Go Go.RowKit
namespace Xb

end Xb
open Xb

def acc (s : Sm) (l : Sm) : Sm := l.foldl (fun a x => addS a x.1 x.2) s
theorem acc_nil (s : Sm) : acc s [] = s := rfl
theorem acc_cons (s : Sm) (x : Pw × Int) (l : Sm) : acc s (x :: l) = acc (addS s x.1 x.2) l := rfl
theorem acc_app (s l m : Sm) : acc s (l ++ m) = acc (acc s l) m := by unfold acc; rw [List.foldl_append]
theorem acc_one (s l : Sm) (x : Pw × Int) : acc s (l ++ [x]) = addS (acc s l) x.1 x.2 := by rw [acc_app]; rfl
theorem Sok.acc {M : Int} : ∀ {l s : Sm}, Sok M s → (∀ x ∈ l, Pok M x.1) → Sok M (G.acc s l)
  | [], _, h, _ => h
  | x :: l, s, h, hl => by
    rw [acc_cons]
    exact Sok.acc (h.add (hl x (by simp)) x.2) fun y hy => hl y (by simp [hy])
/-- all that is added at a power -/
def tot_ : Sm → Pw → Int
  | [], _ => 0
  | x :: l, p => (if x.1 = p then x.2 else 0) + tot_ l p
theorem totS_app : ∀ (l m : Sm) (p : Pw), tot_ (l ++ m) p = tot_ l p + tot_ m p
  | [], m, p => by simp [tot_]
  | x :: l, m, p => by simp only [List.cons_append, tot_]; rw [totS_app l m p]; omega
theorem tot_perm {l m : Sm} (h : l.Perm m) (p : Pw) : tot_ l p = tot_ m p := by
  induction h with
  | nil => rfl
  | cons x _ ih => simp only [tot_, ih]
  | swap x y l => simp only [tot_]; omega
  | trans _ _ h1 h2 => rw [h1, h2]
theorem cf_acc {M : Int} (p : Pw) : ∀ {l s : Sm}, Sok M s → (∀ x ∈ l, Pok M x.1) → cf (acc s l) p = fld (cf s p + tot_ l p)
  | [], s, h, _ => by
    have := cf_bd h p
    simp only [acc_nil, tot_]
    rw [fld_eq]
    omega
  | x :: l, s, h, hl => by
    rw [acc_cons, cf_acc p (h.add (hl x (by simp)) x.2) fun y hy => hl y (by simp [hy]), cf_add x.2 p h]
    simp only [tot_]
    by_cases e : x.1 = p
    · rw [if_pos e, if_pos e, e]
      simp only [fld_eq]
      omega
    · rw [if_neg e, if_neg e, Int.zero_add]
theorem acc_perm {M : Int} {s l m : Sm} (h : Sok M s) (hl : ∀ x ∈ l, Pok M x.1) (hp : l.Perm m) : acc s l = acc s m :=
  Sok.ext (h.acc hl) (h.acc fun x hx => hl x (hp.mem_iff.2 hx)) fun p => by rw [cf_acc p h hl, cf_acc p h fun x hx => hl x (hp.mem_iff.2 hx), tot_perm hp]
theorem acc_congr {α : Type} {f g : α → Pw × Int} : ∀ {l : List α} (s : Sm), (∀ x ∈ l, (f x).1 = (g x).1 ∧ ∀ a, fld (a + (f x).2) = fld (a + (g x).2)) → acc s (l.map f) = acc s (l.map g)
  | [], _, _ => rfl
  | x :: l, s, h => by
    obtain ⟨h1, h2⟩ := h x (by simp)
    simp only [List.map_cons, acc_cons]
    rw [h1, addS_congr h2, acc_congr _ fun y hy => h y (by simp [hy])]
/-- A sum in order is what comes of its own terms. -/
theorem acc_self {M : Int} {s : Sm} (h : Sok M s) : acc [] s = s :=
  Sok.ext (Sok.nil.acc h.key) h fun p => by
    rw [cf_acc p Sok.nil h.key]
    have key : ∀ {t : Sm}, (t.map (·.1)).Nodup → tot_ t p = cf t p := by
      intro t
      induction t with
      | nil => intro _; rfl
      | cons x t ih =>
        intro hn
        simp only [List.map_cons, List.nodup_cons] at hn
        simp only [tot_, cf]
        by_cases e : x.1 = p
        · rw [if_pos e, if_pos e, ih hn.2, cf_none fun z hz e2 => hn.1 (by rw [e, ← e2]; exact List.mem_map.2 ⟨z, hz, rfl⟩)]
          omega
        · rw [if_neg e, if_neg e, ih hn.2]
          omega
    rw [key h.nodup]
    have := cf_bd h p
    simp only [cf]
    rw [fld_eq]
    omega
/-! ### what the program writes into its map -/
theorem filt_ne {s : Sm} {p : Pw} (h : ∀ x ∈ s, x.1 ≠ p) : (s.filter fun x => decide (x.1 ≠ p)) = s := by
  rw [List.filter_eq_self]
  intro x hx
  simpa using h x hx
theorem put_add {M : Int} {p : Pw} (hp : Pok M p) (k : Int) : ∀ {s : Sm}, Sok M s → fld (cf s p + k) ≠ 0 → (putM s p (fld (cf s p + k))).Perm (addS s p k)
  | [], _, hz => by
    simp only [cf, Int.zero_add] at hz ⊢
    simp only [addS]
    rw [if_neg hz]
    exact List.Perm.refl _
  | x :: s, h, hz => by
    have sx := (List.pairwise_cons.1 h.srt).1
    simp only [addS]
    by_cases e : p = x.1
    · have e1 : cf (x :: s) p = x.2 := by simp [cf, e]
      rw [e1] at hz ⊢
      rw [if_pos e, if_neg hz]
      unfold putM
      rw [List.filter_cons, if_neg (by simp [e]), filt_ne fun z hz => by rw [e]; exact (before_ne (sx z hz)).symm]
    · have e1 : cf (x :: s) p = cf s p := by simp only [cf]; rw [if_neg (Ne.symm e)]
      rw [e1] at hz ⊢
      rw [if_neg e]
      split
      · rename_i hb
        have np : ∀ z ∈ s, z.1 ≠ p := fun z hz => (before_ne (before_tr hb (sx z hz))).symm
        rw [cf_none np, Int.zero_add] at hz ⊢
        rw [if_neg hz]
        unfold putM
        rw [filt_ne fun z hz => by
          rcases List.mem_cons.1 hz with rfl | hz
          · exact Ne.symm e
          · exact np z hz]
      · have ih := put_add hp k h.tail hz
        unfold putM at ih ⊢
        rw [List.filter_cons, if_pos (by simpa using Ne.symm e)]
        exact (List.Perm.swap _ _ _).trans (ih.cons x)
theorem del_add {M : Int} {p : Pw} (hp : Pok M p) (k : Int) : ∀ {s : Sm}, Sok M s → fld (cf s p + k) = 0 → (delM s p).Perm (addS s p k)
  | [], _, hz => by
    simp only [cf, Int.zero_add] at hz
    simp only [addS]
    rw [if_pos hz]
    exact List.Perm.refl _
  | x :: s, h, hz => by
    have sx := (List.pairwise_cons.1 h.srt).1
    simp only [addS]
    by_cases e : p = x.1
    · have e1 : cf (x :: s) p = x.2 := by simp [cf, e]
      rw [e1] at hz
      rw [if_pos e, if_pos hz]
      unfold delM
      rw [List.filter_cons, if_neg (by simp [e]), filt_ne fun z hz => by rw [e]; exact (before_ne (sx z hz)).symm]
    · have e1 : cf (x :: s) p = cf s p := by simp only [cf]; rw [if_neg (Ne.symm e)]
      rw [e1] at hz
      rw [if_neg e]
      split
      · rename_i hb
        have np : ∀ z ∈ s, z.1 ≠ p := fun z hz => (before_ne (before_tr hb (sx z hz))).symm
        rw [cf_none np, Int.zero_add] at hz
        rw [if_pos hz]
        unfold delM
        rw [filt_ne fun z hz => by
          rcases List.mem_cons.1 hz with rfl | hz
          · exact Ne.symm e
          · exact np z hz]
      · have ih := del_add hp k h.tail hz
        unfold delM at ih ⊢
        rw [List.filter_cons, if_pos (by simpa using Ne.symm e)]
        exact ih.cons x

/-! ### products -/
def addp (p q : Pw) : Pw := (List.range 8).map fun i => p.getD i 0 + q.getD i 0
@[simp] theorem addp_len (p q : Pw) : (addp p q).length = 8 := by simp [addp]
theorem getD_ge {p : Pw} {j : Nat} (h : p.length ≤ j) : p.getD j 0 = 0 := by rw [List.getD_eq_getElem?_getD, List.getElem?_eq_none h]; rfl
theorem addp_get {p q : Pw} (hp : p.length = 8) (hq : q.length = 8) (j : Nat) : (addp p q).getD j 0 = p.getD j 0 + q.getD j 0 := by
  rcases Nat.lt_or_ge j 8 with h | h
  · simp [addp, List.getD_eq_getElem?_getD, h]
  · rw [getD_ge (by simp; omega), getD_ge (by omega), getD_ge (by omega)]
    rfl
theorem Pok.add {M N : Int} {p q : Pw} (hp : Pok M p) (hq : Pok N q) : Pok (M + N) (addp p q) := ⟨by simp, fun j => by
  rw [addp_get hp.len hq.len]
  have := hp.bd j
  have := hq.bd j
  omega⟩
/-- odd generators of p behind place i, m of them -/
def oin (ds p : Pw) (i : Nat) : Nat → Int
  | 0 => 0
  | m + 1 => oin ds p i m + (ds.getD (i + 1 + m) 0).tmod 2 * p.getD (i + 1 + m) 0
def oddTo (ds p q : Pw) : Nat → Int
  | 0 => 0
  | i + 1 => oddTo ds p q i + (if (ds.getD i 0).tmod 2 ≠ 0 ∧ 0 < q.getD i 0 then oin ds p i (ds.length - (i + 1)) else 0)
def hitAt (ds p q : Pw) (i : Nat) : Bool := decide ((ds.getD i 0).tmod 2 ≠ 0) && (decide (0 < p.getD i 0) && decide (0 < q.getD i 0))
def hits (ds p q : Pw) : Bool := (List.range ds.length).any (hitAt ds p q)
def sgn (ds p q : Pw) : Int := if hits ds p q then 0 else if (oddTo ds p q ds.length).tmod 2 = 1 then -1 else 1
theorem hits_yes {ds p q : Pw} {i : Nat} (hi : i < ds.length) (h : hitAt ds p q i = true) : hits ds p q = true := List.any_eq_true.2 ⟨i, List.mem_range.2 hi, h⟩
theorem hits_no {ds p q : Pw} (h : ∀ i, i < ds.length → hitAt ds p q i = false) : hits ds p q = false := by
  unfold hits
  rw [List.any_eq_false]
  intro i hi
  rw [h i (List.mem_range.1 hi)]
  simp
theorem sgn_cases (ds p q : Pw) : sgn ds p q = 0 ∨ sgn ds p q = 1 ∨ sgn ds p q = -1 := by
  unfold sgn
  split
  · exact .inl rfl
  · split
    · exact .inr (.inr rfl)
    · exact .inr (.inl rfl)
theorem deg2 {ds : Pw} (hd : ∀ j, 0 ≤ ds.getD j 0 ∧ ds.getD j 0 ≤ 12) (j : Nat) : (ds.getD j 0).tmod 2 = 0 ∨ (ds.getD j 0).tmod 2 = 1 := by
  have := hd j
  rw [Int.tmod_eq_emod_of_nonneg this.1]
  omega
theorem oin_bd {ds p : Pw} {M : Int} (hd : ∀ j, 0 ≤ ds.getD j 0 ∧ ds.getD j 0 ≤ 12) (hp : ∀ j, 0 ≤ p.getD j 0 ∧ p.getD j 0 ≤ M) (i : Nat) : ∀ m : Nat, 0 ≤ oin ds p i m ∧ oin ds p i m ≤ m * M
  | 0 => by simp [oin]
  | m + 1 => by
    have h1 := oin_bd hd hp i m
    have h2 := hp (i + 1 + m)
    have e : ((m + 1 : Nat) : Int) * M = m * M + M := by rw [Int.natCast_add, Int.add_mul]; simp
    rw [e]
    simp only [oin]
    rcases deg2 hd (i + 1 + m) with h | h
    · rw [h, Int.zero_mul]; omega
    · rw [h, Int.one_mul]; omega
theorem oddTo_bd {ds p q : Pw} {M : Int} (hn : ds.length ≤ 8) (hd : ∀ j, 0 ≤ ds.getD j 0 ∧ ds.getD j 0 ≤ 12) (hp : ∀ j, 0 ≤ p.getD j 0 ∧ p.getD j 0 ≤ M) : ∀ i : Nat, 0 ≤ oddTo ds p q i ∧ oddTo ds p q i ≤ i * (8 * M)
  | 0 => by simp [oddTo]
  | i + 1 => by
    have h1 := oddTo_bd hn hd hp (q := q) i
    have h2 := oin_bd hd hp i (ds.length - (i + 1))
    have hM := hp 0
    have h3 : ((ds.length - (i + 1) : Nat) : Int) * M ≤ 8 * M := Int.mul_le_mul_of_nonneg_right (by omega) (by omega)
    have e : ((i + 1 : Nat) : Int) * (8 * M) = i * (8 * M) + 8 * M := by rw [Int.natCast_add, Int.add_mul]; simp
    rw [e]
    simp only [oddTo]
    split <;> omega
def mul1 (ds : Pw) (x : Pw × Int) (t : Sm) : Sm := t.flatMap fun y => if sgn ds x.1 y.1 = 0 then [] else [(addp x.1 y.1, (sgn ds x.1 y.1 * x.2 * y.2).tmod 10007)]
def mulL (ds : Pw) (s t : Sm) : Sm := s.flatMap fun x => mul1 ds x t
def timesS (ds : Pw) (s t : Sm) : Sm := acc [] (mulL ds s t)
theorem mul1_mem {ds : Pw} {x : Pw × Int} {t : Sm} {z : Pw × Int} (h : z ∈ mul1 ds x t) : ∃ y ∈ t, sgn ds x.1 y.1 ≠ 0 ∧ z.1 = addp x.1 y.1 := by
  obtain ⟨y, hy, hz⟩ := List.mem_flatMap.1 h
  split at hz
  · simp at hz
  · rename_i hs
    simp at hz
    exact ⟨y, hy, hs, by rw [hz]⟩
theorem mulL_mem {ds : Pw} {s t : Sm} {z : Pw × Int} (h : z ∈ mulL ds s t) : ∃ x ∈ s, ∃ y ∈ t, sgn ds x.1 y.1 ≠ 0 ∧ z.1 = addp x.1 y.1 := by
  obtain ⟨x, hx, hz⟩ := List.mem_flatMap.1 h
  obtain ⟨y, hy, h1, h2⟩ := mul1_mem hz
  exact ⟨x, hx, y, hy, h1, h2⟩
theorem mulL_pok {ds : Pw} {s t : Sm} {M N : Int} (hs : Sok M s) (ht : Sok N t) : ∀ z ∈ mulL ds s t, Pok (M + N) z.1 := fun z hz => by
  obtain ⟨x, hx, y, hy, _, e⟩ := mulL_mem hz
  rw [e]
  exact (hs.key x hx).add (ht.key y hy)
theorem Sok.times {ds : Pw} {s t : Sm} {M N : Int} (hs : Sok M s) (ht : Sok N t) : Sok (M + N) (timesS ds s t) := Sok.nil.acc (mulL_pok hs ht)
theorem mul1_perm {ds : Pw} {x : Pw × Int} {t t' : Sm} (h : t.Perm t') : (mul1 ds x t).Perm (mul1 ds x t') := h.flatMap_right _
theorem mulL_perm {ds : Pw} {s s' t : Sm} (h : s.Perm s') : (mulL ds s t).Perm (mulL ds s' t) := h.flatMap_right _
theorem mulL_mid {ds : Pw} {l1 l2 : Sm} {x : Pw × Int} {t : Sm} : (mulL ds (l1 ++ x :: l2) t).Perm (mul1 ds x t ++ mulL ds (l1 ++ l2) t) := by
  refine (mulL_perm List.perm_middle).trans ?_
  show (mul1 ds x t ++ mulL ds (l1 ++ l2) t).Perm _
  exact List.Perm.refl _
theorem mul1_mid {ds : Pw} {x y : Pw × Int} {l1 l2 : Sm} : (mul1 ds x (l1 ++ y :: l2)).Perm ((if sgn ds x.1 y.1 = 0 then [] else [(addp x.1 y.1, (sgn ds x.1 y.1 * x.2 * y.2).tmod 10007)]) ++ mul1 ds x (l1 ++ l2)) :=
  mul1_perm List.perm_middle
/-- a sum times a number -/
def scl (t : Sm) (k : Int) : Sm := t.map fun y => (y.1, (y.2 * k).tmod 10007)
theorem scl_key {t : Sm} {k : Int} {z : Pw × Int} (h : z ∈ scl t k) : ∃ y ∈ t, z.1 = y.1 := by
  obtain ⟨y, hy, rfl⟩ := List.mem_map.1 h
  exact ⟨y, hy, rfl⟩
theorem scl_pok {M : Int} {t : Sm} (h : Sok M t) (k : Int) : ∀ z ∈ scl t k, Pok M z.1 := fun z hz => by
  obtain ⟨y, hy, e⟩ := scl_key hz
  rw [e]
  exact h.key y hy
theorem scl_perm {t t' : Sm} (h : t.Perm t') (k : Int) : (scl t k).Perm (scl t' k) := h.map _

end Go.Proofs.Ytpojpokldncglaa.G
