/- Loops, ways that meet again, and how pieces of code are left. No condition. -/
import Derived.Test.YtbjhllmcnfncdaaDoorGCall
namespace Go.Proofs.YtbjhllmcnfncdaaDoor.G
open Go Go.RowKit

section
variable {P : Program} {ops : Array Oper} {Q : Exit → Act → World → Prop} {n : Nat} {B : World} {H0 H : HP} {us us0 : List (Nat × Value)} {L : List SA} {K : Act → World → Prop} {id id' : Nat}
theorem EJ.thenN (h : EJ K n B H0 us H L) : EJ (Exit.then K Q .normal) n B H0 us H L := h
theorem EJ.thenE (h : EJ (Q (.exit id)) n B H0 us H L) : EJ (Exit.then K Q (.exit id)) n B H0 us H L := h
theorem EJ.thenR (h : EJ (Q .ret) n B H0 us H L) : EJ (Exit.then K Q .ret) n B H0 us H L := h
theorem EJ.inN (h : EJ (Q .normal) n B H0 us H L) : EJ (Exit.inBlock id Q .normal) n B H0 us H L := h
theorem EJ.inR (h : EJ (Q .ret) n B H0 us H L) : EJ (Exit.inBlock id Q .ret) n B H0 us H L := h
theorem EJ.inE (h : EJ (Q .normal) n B H0 us H L) : EJ (Exit.inBlock id Q (.exit id)) n B H0 us H L := fun a w hF hH => by
  show (if id = id then Q .normal a w else Q (.exit id) a w)
  rw [if_pos rfl]
  exact h a w hF hH
theorem EJ.inO (hne : Nat.beq id' id = false) (h : EJ (Q (.exit id')) n B H0 us H L) : EJ (Exit.inBlock id Q (.exit id')) n B H0 us H L := fun a w hF hH => by
  show (if id' = id then Q .normal a w else Q (.exit id') a w)
  rw [if_neg (fun e => by rw [e] at hne; simp at hne)]
  exact h a w hF hH

def hasKey : List (Nat × Value) → Nat → Bool
  | [], _ => false
  | (k, _) :: us, j => Nat.beq k j || hasKey us j
/-- Whatever was written anew is told of in V, or not spoken of in us0. -/
def chk : List (Nat × Value) → List (Nat × Value) → List (Nat × Value) → Bool
  | [], _, _ => true
  | (k, _) :: new, V, us0 => (hasKey V k || !hasKey us0 k) && chk new V us0

theorem lk_none : ∀ {us : List (Nat × Value)} {j : Nat}, hasKey us j = false → lk us j = none
  | [], _, _ => rfl
  | (k, v) :: us, j, h => by
    simp only [hasKey, Bool.or_eq_false_iff] at h
    simp only [lk, h.1]
    exact lk_none h.2
theorem lk_append : ∀ (V us : List (Nat × Value)) (j : Nat), lk (V ++ us) j = (lk V j).or (lk us j)
  | [], _, _ => rfl
  | (k, v) :: V, us, j => by
    simp only [List.cons_append, lk]
    cases Nat.beq k j <;> simp [lk_append V us j]
theorem subB_lk : ∀ {V us : List (Nat × Value)}, subB V us → ∀ j v, lk V j = some v → lk us j = some v
  | [], _, _, j, v, h => by simp [lk] at h
  | (k, u) :: V, us, hs, j, v, h => by
    simp only [lk] at h
    cases hb : Nat.beq k j with
    | true =>
      rw [hb] at h
      simp at h
      subst h
      have := Nat.eq_of_beq_eq_true hb
      subst this
      exact hs.1
    | false =>
      rw [hb] at h
      exact subB_lk hs.2 j v h
theorem chk_lk : ∀ {new V us0 : List (Nat × Value)}, chk new V us0 = true → ∀ j v, lk V j = none → lk us0 j = some v → lk (new ++ us0) j = some v
  | [], _, _, _, j, v, _, h => h
  | (k, u) :: new, V, us0, hc, j, v, hV, h => by
    simp only [chk, Bool.and_eq_true, Bool.or_eq_true, Bool.not_eq_true'] at hc
    simp only [List.cons_append, lk]
    cases hb : Nat.beq k j with
    | true =>
      have := Nat.eq_of_beq_eq_true hb
      subst this
      rcases hc.1 with h1 | h1
      · have key : ∀ V : List (Nat × Value), hasKey V k = true → lk V k ≠ none := by
          intro V
          induction V with
          | nil => intro h; simp [hasKey] at h
          | cons q V ih =>
            obtain ⟨a, b⟩ := q
            intro h
            simp only [hasKey] at h
            simp only [lk]
            cases hab : Nat.beq a k with
            | true => simp
            | false => rw [hab] at h; simpa using ih (by simpa using h)
        exact absurd hV (key V h1)
      · rw [lk_none h1] at h
        cases h
    | false => exact chk_lk hc.2 j v hV h
theorem Fr.merge {us V : List (Nat × Value)} {a : Act} (h : Fr n us a) (m : Nat) (hd : us.drop m = us0) (hk : chk (us.take m) V us0 = true) (hs : subB V us) : Fr n (V ++ us0) a := by
  refine ⟨h.size, h.defers, fun j v hj => ?_⟩
  rw [lk_append] at hj
  cases hV : lk V j with
  | some u =>
    rw [hV] at hj
    simp at hj
    subst hj
    exact h.get j u (subB_lk hs j u hV)
  | none =>
    rw [hV] at hj
    simp at hj
    have := chk_lk hk j v hV hj
    rw [← hd, List.take_append_drop] at this
    exact h.get j v this

section
variable {σ : Type} {V : σ → List (Nat × Value)} {Hs : σ → HP} {Ls : σ → List SA} {I : σ → Prop} {μ : σ → Nat} {s : σ}
theorem CJ.loopU {c : Code} (V : σ → List (Nat × Value)) (Hs : σ → HP) (Ls : σ → List SA) (I : σ → Prop) (μ : σ → Nat) (s0 : σ)
    (hI : I s0) (hV : subB (V s0) us) (hH : H = Hs s0) (hL : L = Ls s0)
    (round : ∀ s, I s → ∀ K : Act → World → Prop, (∀ {us' : List (Nat × Value)} {H' : HP} {L' : List SA} (s' : σ), I s' → μ s' < μ s → ∀ m : Nat, us'.drop m = us → chk (us'.take m) (V s') us = true → subB (V s') us' → H' = Hs s' → L' = Ls s' → EJ K n B H0 us' H' L') →
      CJ P c (Exit.then K Q) n B H0 (V s ++ us) (Hs s) (Ls s)) : CJ P (.loop c) Q n B H0 us H L := by
  refine CJ.loop (fun m a w => ∃ s, m = μ s ∧ I s ∧ Fr n (V s ++ us) a ∧ Hp B H0 (Hs s) (Ls s) w) (fun a w hF hH' => ⟨_, s0, rfl, hI, hF.merge 0 rfl rfl hV, by rw [← hH, ← hL]; exact hH'⟩) ?_
  rintro m a w ⟨s, rfl, hs, hF, hH'⟩
  refine round s hs _ (fun s' h1 h2 m hd hk hsb hH hL a w hF hH' => ?_) a w hF hH'
  subst hH
  subst hL
  exact ⟨_, h2, s', rfl, h1, hF.merge m hd hk hsb, hH'⟩
theorem CJ.cutU {x y : Code} (V : σ → List (Nat × Value)) (Hs : σ → HP) (Ls : σ → List SA) (I : σ → Prop)
    (h1 : ∀ K : Act → World → Prop, (∀ {us' : List (Nat × Value)} {H' : HP} {L' : List SA} (s' : σ), I s' → ∀ m : Nat, us'.drop m = us → chk (us'.take m) (V s') us = true → subB (V s') us' → H' = Hs s' → L' = Ls s' → EJ K n B H0 us' H' L') →
      CJ P x (Exit.then K Q) n B H0 us H L)
    (h2 : ∀ s, I s → CJ P y Q n B H0 (V s ++ us) (Hs s) (Ls s)) : CJ P (.seq x y) Q n B H0 us H L := by
  refine CJ.cut (fun a w => ∃ s, I s ∧ Fr n (V s ++ us) a ∧ Hp B H0 (Hs s) (Ls s) w) (h1 _ fun s' hI m hd hk hsb hH hL a w hF hH' => ?_) fun a w ⟨s, hI, hF, hH⟩ => h2 s hI a w hF hH
  subst hH
  subst hL
  exact ⟨s', hI, hF.merge m hd hk hsb, hH'⟩
end
/-- no wrap -/
theorem nw (z : Int) (h : -9223372036854775808 ≤ z ∧ z ≤ 9223372036854775807) : IntKind.i64.wrap z = z := Go.IntWalk.i64_in z h
end
end Go.Proofs.YtbjhllmcnfncdaaDoor.G
