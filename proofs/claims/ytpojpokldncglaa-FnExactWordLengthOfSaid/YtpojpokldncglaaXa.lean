/- Sums: powers with factors, in order; how they are added and multiplied: plain lists, no program. No condition. -/
import Derived.Test.YtpojpokldncglaaGMap
import Derived.Test.YtpojpokldncglaaProg
import Derived.Test.YtpojpokldncglaaWa
import Derived.Test.YtpojpokldncglaaWb
import Derived.Test.YtpojpokldncglaaWc
import Derived.Test.YtpojpokldncglaaWd
import Derived.Test.YtpojpokldncglaaWe
import Derived.Test.YtpojpokldncglaaWf
import Derived.Test.YtpojpokldncglaaWg
import Derived.Test.YtpojpokldncglaaWh
import Derived.Test.YtpojpokldncglaaWi
import Derived.Test.YtpojpokldncglaaWj
import Derived.Test.YtpojpokldncglaaWk
import Derived.Test.YtpojpokldncglaaWl
import Derived.Test.YtpojpokldncglaaWm
import Derived.Test.YtpojpokldncglaaWn
import Derived.Test.YtpojpokldncglaaWo
import Derived.Test.YtpojpokldncglaaWp
set_option linter.unusedVariables false
set_option linter.unusedSimpArgs false
namespace Go.Proofs.Ytpojpokldncglaa.G
open Go Go.RowKit
namespace Xa

end Xa
open Xa

abbrev Pw := List Int
abbrev Sm := List (Pw × Int)
theorem tmod_p (x : Int) : ∃ r, x.tmod 10007 = x - 10007 * r := ⟨x.tdiv 10007, by have := Int.tmod_add_mul_tdiv x 10007; omega⟩
theorem tmod_bd (x : Int) : -10007 < x.tmod 10007 ∧ x.tmod 10007 < 10007 := by
  rcases Int.le_total 0 x with h | h
  · rw [Int.tmod_eq_emod_of_nonneg h]
    omega
  · have e : x = -(-x) := by omega
    rw [e, Int.neg_tmod, Int.tmod_eq_emod_of_nonneg (by omega)]
    omega
def fld (x : Int) : Int := (x.tmod 10007 + 10007).tmod 10007
theorem fld_eq (x : Int) : fld x = x % 10007 := by
  unfold fld
  obtain ⟨r, hr⟩ := tmod_p x
  have hb := tmod_bd x
  rw [Int.tmod_eq_emod_of_nonneg (by omega)]
  omega
theorem fld_bd (x : Int) : 0 ≤ fld x ∧ fld x ≤ 10006 := by rw [fld_eq]; omega
theorem fld_tmod (a x : Int) : fld (a + x.tmod 10007) = fld (a + x) := by
  rw [fld_eq, fld_eq]
  obtain ⟨r, hr⟩ := tmod_p x
  omega
theorem fld_fld (a x : Int) : fld (a + fld x) = fld (a + x) := by rw [fld_eq, fld_eq, fld_eq]; omega

/-! ### the order -/
theorem first_of (f : Nat → Bool) : ∀ n : Nat, (∀ j, j < n → f j = false) ∨ ∃ k, k < n ∧ f k = true ∧ ∀ j, j < k → f j = false
  | 0 => .inl fun j hj => by omega
  | n + 1 => by
    rcases first_of f n with h | ⟨k, h1, h2, h3⟩
    · cases hb : f n with
      | true => exact .inr ⟨n, by omega, hb, h⟩
      | false => exact .inl (upto h hb)
    · exact .inr ⟨k, by omega, h2, h3⟩
theorem before_iff {p q : Pw} : before p q = true ↔ ∃ k, k < 8 ∧ (∀ j, j < k → p.getD j 0 = q.getD j 0) ∧ q.getD k 0 < p.getD k 0 := by
  constructor
  · intro h
    rcases first_of (fun j => decide (p.getD j 0 ≠ q.getD j 0)) 8 with h1 | ⟨k, h1, h2, h3⟩
    · rw [before_miss fun j hj => by simpa using h1 j hj] at h
      cases h
    · have e : ∀ j, j < k → p.getD j 0 = q.getD j 0 := fun j hj => by simpa using h3 j hj
      rw [before_hit h1 e (by simpa using h2)] at h
      exact ⟨k, h1, e, by simpa using h⟩
  · rintro ⟨k, h1, h2, h3⟩
    rw [before_hit h1 h2 (by omega)]
    simpa using h3
theorem before_irr (p : Pw) : before p p = false := before_miss fun _ _ => rfl
theorem before_tr {p q r : Pw} (h1 : before p q = true) (h2 : before q r = true) : before p r = true := by
  obtain ⟨k, a1, a2, a3⟩ := before_iff.1 h1
  obtain ⟨m, b1, b2, b3⟩ := before_iff.1 h2
  refine before_iff.2 ?_
  rcases Nat.lt_trichotomy k m with h | h | h
  · exact ⟨k, a1, fun j hj => by rw [a2 j hj, b2 j (by omega)], by rw [← b2 k h]; exact a3⟩
  · subst h
    exact ⟨k, a1, fun j hj => by rw [a2 j hj, b2 j hj], by omega⟩
  · exact ⟨m, b1, fun j hj => by rw [a2 j (by omega), b2 j hj], by rw [a2 m h]; exact b3⟩
theorem before_as {p q : Pw} (h : before p q = true) : before q p = false := by
  cases hb : before q p with
  | false => rfl
  | true => have := before_tr h hb; rw [before_irr] at this; cases this
theorem before_ne {p q : Pw} (h : before p q = true) : p ≠ q := fun e => by subst e; rw [before_irr] at h; cases h
theorem before_tot {p q : Pw} (hp : p.length = 8) (hq : q.length = 8) (h1 : before p q = false) (h2 : before q p = false) : p = q := by
  refine list_eq_of (by omega) fun j hj => ?_
  rcases first_of (fun j => decide (p.getD j 0 ≠ q.getD j 0)) 8 with h | ⟨k, a1, a2, a3⟩
  · simpa using h j (by omega)
  · have e : ∀ j, j < k → p.getD j 0 = q.getD j 0 := fun j hj => by simpa using a3 j hj
    have hne : p.getD k 0 ≠ q.getD k 0 := by simpa using a2
    rw [before_hit a1 e hne] at h1
    rw [before_hit a1 (fun j hj => (e j hj).symm) (Ne.symm hne)] at h2
    have a := of_decide_eq_false h1
    have b := of_decide_eq_false h2
    omega

/-! ### sums in order -/
/-- a power with exponents up to M -/
structure Pok (M : Int) (p : Pw) : Prop where
  len : p.length = 8
  bd : ∀ j, 0 ≤ p.getD j 0 ∧ p.getD j 0 ≤ M
theorem Pok.small {M : Int} {p : Pw} (h : Pok M p) (hM : M ≤ 1000000) : Small p := fun j => by have := h.bd j; omega
theorem Pok.mono {M M' : Int} {p : Pw} (h : Pok M p) (hM : M ≤ M') : Pok M' p := ⟨h.len, fun j => by have := h.bd j; omega⟩
structure Sok (M : Int) (s : Sm) : Prop where
  srt : s.Pairwise fun x y => before x.1 y.1 = true
  key : ∀ x ∈ s, Pok M x.1
  val : ∀ x ∈ s, 1 ≤ x.2 ∧ x.2 ≤ 10006
theorem Sok.nil {M : Int} : Sok M [] := ⟨List.Pairwise.nil, fun _ h => by simp at h, fun _ h => by simp at h⟩
theorem Sok.tail {M : Int} {x : Pw × Int} {s : Sm} (h : Sok M (x :: s)) : Sok M s := ⟨(List.pairwise_cons.1 h.srt).2, fun y hy => h.key y (by simp [hy]), fun y hy => h.val y (by simp [hy])⟩
theorem Sok.mono {M M' : Int} {s : Sm} (h : Sok M s) (hM : M ≤ M') : Sok M' s := ⟨h.srt, fun x hx => (h.key x hx).mono hM, h.val⟩
theorem Sok.nodup {M : Int} {s : Sm} (h : Sok M s) : (s.map (·.1)).Nodup := by
  rw [List.Nodup, List.pairwise_map]
  exact h.srt.imp fun h => before_ne h
def cf : Sm → Pw → Int
  | [], _ => 0
  | x :: s, p => if x.1 = p then x.2 else cf s p
theorem look_cf (s : Sm) (p : Pw) : (look s p).elim (Value.int .i64 0) (Value.int .i64) = .int .i64 (cf s p) := by
  induction s with
  | nil => rfl
  | cons x s ih =>
    unfold look at ih ⊢
    rw [List.find?_cons]
    by_cases e : x.1 = p
    · rw [decide_eq_true e]
      simp [cf, e]
    · rw [decide_eq_false e]
      simp only [cf, if_neg e]
      exact ih
theorem cf_none {s : Sm} {p : Pw} (h : ∀ x ∈ s, x.1 ≠ p) : cf s p = 0 := by
  induction s with
  | nil => rfl
  | cons x s ih =>
    simp only [cf]
    rw [if_neg (h x (by simp)), ih fun y hy => h y (by simp [hy])]
theorem cf_mem {s : Sm} (hn : (s.map (·.1)).Nodup) {x : Pw × Int} (h : x ∈ s) : cf s x.1 = x.2 := by
  induction s with
  | nil => simp at h
  | cons y s ih =>
    simp only [List.map_cons, List.nodup_cons] at hn
    simp only [cf]
    rcases List.mem_cons.1 h with h | h
    · subst h; rw [if_pos rfl]
    · rw [if_neg fun e => hn.1 (by rw [e]; exact List.mem_map.2 ⟨x, h, rfl⟩), ih hn.2 h]
theorem cf_bd {M : Int} {s : Sm} (h : Sok M s) (p : Pw) : 0 ≤ cf s p ∧ cf s p ≤ 10006 := by
  induction s with
  | nil => simp [cf]
  | cons x s ih =>
    simp only [cf]
    have := h.val x (by simp)
    split
    · omega
    · exact ih h.tail
/-- Two sums in order with the same factors are one. -/
theorem Sok.ext {M N : Int} : ∀ {s t : Sm}, Sok M s → Sok N t → (∀ p, cf s p = cf t p) → s = t
  | [], [], _, _, _ => rfl
  | [], y :: t, _, ht, h => by
    have h1 := h y.1
    have h2 := ht.val y (by simp)
    simp [cf] at h1
    omega
  | x :: s, [], hs, _, h => by
    have h1 := h x.1
    have h2 := hs.val x (by simp)
    simp [cf] at h1
    omega
  | x :: s, y :: t, hs, ht, h => by
    have sx := (List.pairwise_cons.1 hs.srt).1
    have sy := (List.pairwise_cons.1 ht.srt).1
    have vx := hs.val x (by simp)
    have vy := ht.val y (by simp)
    have hxy : x.1 = y.1 := by
      refine before_tot (hs.key x (by simp)).len (ht.key y (by simp)).len ?_ ?_
      · cases hb : before x.1 y.1 with
        | false => rfl
        | true =>
          have h1 := h x.1
          rw [cf_none (s := y :: t) (fun z hz => by
            rcases List.mem_cons.1 hz with rfl | hz
            · exact (before_ne hb).symm
            · exact (before_ne (before_tr hb (sy z hz))).symm)] at h1
          simp [cf] at h1
          omega
      · cases hb : before y.1 x.1 with
        | false => rfl
        | true =>
          have h1 := h y.1
          rw [cf_none (s := x :: s) (fun z hz => by
            rcases List.mem_cons.1 hz with rfl | hz
            · exact (before_ne hb).symm
            · exact (before_ne (before_tr hb (sx z hz))).symm)] at h1
          simp [cf] at h1
          omega
    have h2 : x.2 = y.2 := by
      have h1 := h x.1
      simp only [cf, if_true] at h1
      rwa [if_pos hxy.symm] at h1
    have e : x = y := by cases x; cases y; simp_all
    subst e
    rw [Sok.ext hs.tail ht.tail fun p => ?_]
    by_cases hp : x.1 = p
    · subst hp
      rw [cf_none fun z hz => (before_ne (sx z hz)).symm, cf_none fun z hz => (before_ne (sy z hz)).symm]
    · have h1 := h p
      simp only [cf] at h1
      rwa [if_neg hp, if_neg hp] at h1
/-- one more -/
def addS : Sm → Pw → Int → Sm
  | [], p, k => if fld k = 0 then [] else [(p, fld k)]
  | x :: s, p, k => if p = x.1 then (if fld (x.2 + k) = 0 then s else (p, fld (x.2 + k)) :: s)
    else if before p x.1 then (if fld k = 0 then x :: s else (p, fld k) :: x :: s) else x :: addS s p k
theorem addS_mem {p : Pw} {k : Int} : ∀ {s : Sm} {y : Pw × Int}, y ∈ addS s p k → y.1 = p ∨ y ∈ s
  | [], y, h => by
    simp only [addS] at h
    split at h
    · simp at h
    · simp at h; exact .inl (by rw [h])
  | x :: s, y, h => by
    simp only [addS] at h
    split at h
    · split at h
      · exact .inr (by simp [h])
      · rcases List.mem_cons.1 h with h | h
        · exact .inl (by rw [h])
        · exact .inr (by simp [h])
    · split at h
      · split at h
        · exact .inr h
        · rcases List.mem_cons.1 h with h | h
          · exact .inl (by rw [h])
          · exact .inr h
      · rcases List.mem_cons.1 h with h | h
        · exact .inr (by simp [h])
        · rcases addS_mem h with h | h
          · exact .inl h
          · exact .inr (by simp [h])
theorem Sok.add {M : Int} {p : Pw} (hp : Pok M p) (k : Int) : ∀ {s : Sm}, Sok M s → Sok M (addS s p k)
  | [], _ => by
    simp only [addS]
    split
    · exact Sok.nil
    · have := fld_bd k
      exact ⟨by simp, fun x hx => by simp at hx; rw [hx]; exact hp, fun x hx => by simp at hx; rw [hx]; simp; omega⟩
  | x :: s, h => by
    have sx := (List.pairwise_cons.1 h.srt).1
    simp only [addS]
    split
    · rename_i e
      split
      · exact h.tail
      · have := fld_bd (x.2 + k)
        refine ⟨List.pairwise_cons.2 ⟨fun y hy => by rw [e]; exact sx y hy, h.tail.srt⟩, fun y hy => ?_, fun y hy => ?_⟩
        · rcases List.mem_cons.1 hy with rfl | hy
          · exact hp
          · exact h.tail.key y hy
        · rcases List.mem_cons.1 hy with rfl | hy
          · simp; omega
          · exact h.tail.val y hy
    · rename_i e
      split
      · rename_i hb
        split
        · exact h
        · have := fld_bd k
          refine ⟨List.pairwise_cons.2 ⟨fun y hy => ?_, h.srt⟩, fun y hy => ?_, fun y hy => ?_⟩
          · rcases List.mem_cons.1 hy with rfl | hy
            · exact hb
            · exact before_tr hb (sx y hy)
          · rcases List.mem_cons.1 hy with rfl | hy
            · exact hp
            · exact h.key y hy
          · rcases List.mem_cons.1 hy with rfl | hy
            · simp; omega
            · exact h.val y hy
      · rename_i hb
        have hb' : before x.1 p = true := by
          cases hc : before x.1 p with
          | true => rfl
          | false => exact absurd (before_tot hp.len (h.key x (by simp)).len (by simpa using hb) hc) e
        have ih := Sok.add hp k h.tail
        refine ⟨List.pairwise_cons.2 ⟨fun y hy => ?_, ih.srt⟩, fun y hy => ?_, fun y hy => ?_⟩
        · rcases addS_mem hy with hy | hy
          · rw [hy]; exact hb'
          · exact sx y hy
        · rcases List.mem_cons.1 hy with rfl | hy
          · exact h.key _ (by simp)
          · exact ih.key y hy
        · rcases List.mem_cons.1 hy with rfl | hy
          · exact h.val _ (by simp)
          · exact ih.val y hy
theorem cf_add {M : Int} {p : Pw} (k : Int) (q : Pw) : ∀ {s : Sm}, Sok M s → cf (addS s p k) q = if p = q then fld (cf s p + k) else cf s q
  | [], _ => by
    simp only [addS, cf]
    rw [Int.zero_add]
    by_cases e : p = q
    · rw [if_pos e]
      split
      · rename_i h; rw [h]; rfl
      · simp [cf, e]
    · rw [if_neg e]
      split
      · rfl
      · simp [cf, e]
  | x :: s, h => by
    have sx := (List.pairwise_cons.1 h.srt).1
    have nx : ∀ r, r = x.1 → cf s r = 0 := fun r hr => cf_none fun z hz => by rw [hr]; exact (before_ne (sx z hz)).symm
    simp only [addS]
    by_cases e : p = x.1
    · rw [if_pos e]
      have e1 : cf (x :: s) p = x.2 := by simp [cf, e]
      rw [e1]
      by_cases e2 : p = q
      · rw [if_pos e2]
        split
        · rename_i hz
          rw [hz, nx q (by rw [← e2, e])]
        · simp [cf, e2]
      · rw [if_neg e2]
        have e3 : cf (x :: s) q = cf s q := by simp only [cf]; rw [if_neg (by rw [← e]; exact e2)]
        rw [e3]
        split
        · rfl
        · simp [cf, e2]
    · rw [if_neg e]
      have e1 : cf (x :: s) p = cf s p := by simp only [cf]; rw [if_neg (Ne.symm e)]
      split
      · rename_i hb
        have np : cf s p = 0 := cf_none fun z hz => (before_ne (before_tr hb (sx z hz))).symm
        rw [e1, np, Int.zero_add]
        by_cases e2 : p = q
        · rw [if_pos e2]
          split
          · rename_i hz
            rw [hz, ← e2, e1, np]
          · simp [cf, e2]
        · rw [if_neg e2]
          split
          · rfl
          · simp only [cf]; rw [if_neg e2]
      · simp only [cf]
        rw [cf_add k q h.tail, if_neg (Ne.symm e)]
        by_cases e2 : p = q
        · rw [if_pos e2, if_neg (by rw [← e2]; exact Ne.symm e), if_pos e2]
        · rw [if_neg e2, if_neg e2]
theorem addS_congr {k k' : Int} (h : ∀ a, fld (a + k) = fld (a + k')) (p : Pw) : ∀ s : Sm, addS s p k = addS s p k'
  | [] => by
    have h0 := h 0
    rw [Int.zero_add, Int.zero_add] at h0
    simp only [addS, h0]
  | x :: s => by
    have h0 := h 0
    rw [Int.zero_add, Int.zero_add] at h0
    simp only [addS, h0, h x.2, addS_congr h p s]

end Go.Proofs.Ytpojpokldncglaa.G
