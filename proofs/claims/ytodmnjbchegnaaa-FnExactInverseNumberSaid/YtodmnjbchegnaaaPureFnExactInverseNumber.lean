/- The two loops of the inverses are the same loop, and it ends: the plain law under FnExactInverseNumber. No condition. -/
import Derived.Test.YtodmnjbchegnaaaPFnExactInverseNumberx1
namespace Go.Proofs.Ytodmnjbchegnaaa.Pure
open Go.RowKit Go.Proofs.Ytodmnjbchegnaaa.PFnExactInverseNumber Go.Proofs.YtodmnjbchegnaaaW.PrintWords Go.Proofs.YtodmnjbchegnaaaW.PrintLast

/-- YOURS: ∀ (a0 : Int), (Lit.int .i64 a0).wf = true → ∃ k, laws_FnExactInverseNumber.f k a0 = some true
What it reaches (each with k first where it has rounds; `.mono`: more rounds tell the same; `.l0`, ..: its loops, with `.mono_l`): spec_l01In.f, spec_l01Inverse.f, spec_InverseNumber.f, impl_within.f, impl_isFactor.f, impl_inverse.f, impl_InverseNumber.f, laws_FnExactInverseNumber.f -/
theorem same (k : Nat) : ∀ x y n : Int, spec_l01Inverse.l0 k x y n = impl_inverse.l0 k y x n := by
  induction k with
  | zero => intro x y n; simp only [spec_l01Inverse.l0, impl_inverse.l0]
  | succ k ih => intro x y n; simp only [spec_l01Inverse.l0, impl_inverse.l0, ih]

theorem ends (j : Nat) : ∀ (x y n : Int), 0 ≤ n → n ≤ 10005 → n < 2 ^ j → ∃ r, impl_inverse.l0 (j + 1) x y n = some r := by
  induction j with
  | zero =>
    intro x y n h0 _ h1
    have : n = 0 := by simp at h1; omega
    subst this
    exact ⟨y, by simp only [impl_inverse.l0]; rfl⟩
  | succ j ih =>
    intro x y n h0 hm h1
    by_cases h : n > 0
    · have hd : wrap64 (Int.tdiv n 2) = n / 2 := by
        rw [Int.tdiv_eq_ediv_of_nonneg h0]
        unfold wrap64
        omega
      rw [show j + 1 + 1 = (j + 1) + 1 from rfl]
      simp only [impl_inverse.l0]
      rw [if_pos h, hd]
      have h2 : n / 2 < 2 ^ j := by rw [Int.pow_succ] at h1; omega
      split
      · exact ih _ _ _ (by omega) (by omega) h2
      · exact ih _ _ _ (by omega) (by omega) h2
    · exact ⟨y, by simp only [impl_inverse.l0]; rw [if_neg h]⟩

theorem FnExactInverseNumber : laws_FnExactInverseNumber.Pure := by
  intro x _
  refine ⟨15, ?_⟩
  unfold laws_FnExactInverseNumber.f spec_InverseNumber.f impl_InverseNumber.f impl_isFactor.f impl_within.f spec_l01In.f
  by_cases h1 : x ≥ 1
  · rw [if_pos h1]
    simp only [Option.bind_some]
    by_cases h2 : x ≤ 10006
    · obtain ⟨r, hr⟩ := ends 14 x 1 10005 (by omega) (by omega) (by decide)
      have hs : spec_l01Inverse.f 15 x = some r := by unfold spec_l01Inverse.f; rw [same]; exact hr
      have hi : impl_inverse.f 15 x = some r := hr
      simp [h2, hs, hi]
    · simp [h2]
  · rw [if_neg h1]
    simp

end Go.Proofs.Ytodmnjbchegnaaa.Pure
