/- What a law writes into rows of rows of ints. No condition. -/
import Derived.Test.YtbjhllmcnfncdaaDoorGSnoc
namespace Go.Proofs.YtbjhllmcnfncdaaDoor.G
open Go Go.RowKit
theorem ownIs_drop {T : TypeId} {vs : Vs} {fs : List (List Int)} {i : Nat} (hi : i < fs.length) :
    ownIs T (vs.dr i) (fs.drop i) = star (own T 1 (vs i).1 (rw_ fs i).length (vs i).2 (intsC (rw_ fs i))) (ownIs T (vs.dr (i + 1)) (fs.drop (i + 1))) := by
  have e1 : fs.drop i = rw_ fs i :: fs.drop (i + 1) := by
    rw [List.drop_eq_getElem_cons hi]
    simp [rw_, List.getD_eq_getElem?_getD, List.getElem?_eq_getElem hi]
  have e2 : (vs.dr i).tl = vs.dr (i + 1) := by
    funext j
    simp only [Vs.tl, Vs.dr]
    congr 1
    omega
  rw [e1]
  simp only [ownIs]
  rw [e2]
  simp [Vs.dr]
section
variable {B : World} {H0 H : HP} {w : World}
theorem Hp.isIn {L : List SA} {T : TypeId} {vs : Vs} {fs : List (List Int)} {i : Nat} (h : Hp B H0 H (ownIs T (vs.dr i) (fs.drop i) :: L) w) (hi : i < fs.length) :
    Hp B H0 H (own T 1 (vs i).1 (rw_ fs i).length (vs i).2 (intsC (rw_ fs i)) :: ownIs T (vs.dr (i + 1)) (fs.drop (i + 1)) :: L) w := by
  rw [ownIs_drop hi] at h
  exact h.unstar
end
/-- what a law writes into rows -/
def marksIs : Int → List (List Int) → List (List Int)
  | _, [] => []
  | k, f :: fs => marks k f.length :: marksIs (k + (f.length : Nat)) fs
def totI : List (List Int) → Nat
  | [] => 0
  | f :: fs => f.length + totI fs
theorem totI_app : ∀ (a b : List (List Int)), totI (a ++ b) = totI a + totI b
  | [], b => by simp [totI]
  | f :: a, b => by simp [totI, totI_app a b]; omega
theorem marksIs_app : ∀ (k : Int) (a b : List (List Int)), marksIs k (a ++ b) = marksIs k a ++ marksIs (k + (totI a : Nat)) b
  | k, [], b => by simp [marksIs, totI]
  | k, f :: a, b => by
    simp only [List.cons_append, marksIs, totI]
    rw [marksIs_app]
    congr 2
    congr 1
    omega
theorem totI_succ {fs : List (List Int)} {i : Nat} (hi : i < fs.length) : totI (fs.take (i + 1)) = totI (fs.take i) + (rw_ fs i).length := by
  rw [List.take_succ_eq_append_getElem hi, totI_app]
  simp [totI, rw_, List.getD_eq_getElem?_getD, List.getElem?_eq_getElem hi]
theorem marksIs_succ {k : Int} {fs : List (List Int)} {i : Nat} (hi : i < fs.length) : marksIs k (fs.take (i + 1)) = marksIs k (fs.take i) ++ [marks (k + (totI (fs.take i) : Nat)) (rw_ fs i).length] := by
  rw [List.take_succ_eq_append_getElem hi, marksIs_app]
  simp [marksIs, rw_, List.getD_eq_getElem?_getD, List.getElem?_eq_getElem hi]
@[simp] theorem marksIs_length : ∀ (k : Int) (fs : List (List Int)), (marksIs k fs).length = fs.length
  | _, [] => rfl
  | k, f :: fs => by simp [marksIs, marksIs_length]
theorem slicesI_marks : ∀ (vs : Vs) (k : Int) (fs : List (List Int)), slicesI vs (marksIs k fs) = slicesI vs fs
  | _, _, [] => rfl
  | vs, k, f :: fs => by simp [slicesI, marksIs, slicesI_marks]
/-- rows that a law has written -/
def MRows (H : HP) (q : Option Addr) (k : Int) (fs : List (List Int)) : Prop := ∀ i, i < fs.length → ∃ q' c', cellO H q i = some (.slice q' (rw_ fs i).length c') ∧ MInts H q' (k + (totI (fs.take i) : Nat)) (rw_ fs i).length
theorem MRows.sm {H : HP} {q : Option Addr} {k : Int} {fs : List (List Int)} (h : MRows H q k fs) {i : Nat} (hi : i < fs.length) : q.isSome = true := by
  obtain ⟨_, _, h1, _⟩ := h i hi
  exact cellO_some h1
theorem MRows.le {H H' : HP} {q : Option Addr} {k : Int} {fs : List (List Int)} (h : MRows H q k fs) (hle : Le H H') : MRows H' q k fs := fun i hi => by
  obtain ⟨q', c', h1, h2⟩ := h i hi
  exact ⟨q', c', cellO_le hle h1, h2.le hle⟩
theorem marksIs_get : ∀ {k : Int} {fs : List (List Int)} {i : Nat}, i < fs.length → rw_ (marksIs k fs) i = marks (k + (totI (fs.take i) : Nat)) (rw_ fs i).length
  | _, [], i, h => by simp at h
  | k, f :: fs, 0, _ => by simp [marksIs, rw_, totI]
  | k, f :: fs, i + 1, h => by
    have := marksIs_get (k := k + (f.length : Nat)) (fs := fs) (i := i) (by simpa using h)
    simp only [marksIs, rw_, List.getD_cons_succ, List.take_succ_cons, totI] at this ⊢
    rw [this]
    congr 1
    omega
theorem totI_take_le {fs : List (List Int)} : ∀ {i : Nat}, i < fs.length → totI (fs.take i) + (rw_ fs i).length ≤ totI fs := by
  induction fs with
  | nil => intro i h; simp at h
  | cons f fs ih =>
    intro i h
    cases i with
    | zero => simp [totI, rw_]
    | succ i =>
      have := ih (i := i) (by simpa using h)
      simp only [List.take_succ_cons, totI, rw_, List.getD_cons_succ] at this ⊢
      omega
theorem own_mrows {E T : TypeId} {q : Option Addr} {c : Nat} {vs : Vs} {k : Int} {fs : List (List Int)} {h : HP} (hk : 0 ≤ k ∧ k + (totI fs : Nat) ≤ 9223372036854775807) (hh : (ownRs E T q c vs (marksIs k fs)).holds h) : MRows h q k fs := fun i hi => by
  have hi' : i < (marksIs k fs).length := by simpa using hi
  have h1 := own_reads hh.1 i _ (slicesI_get hi')
  have h2 := ownIs_get hh.2.1 hi'
  have h3 := totI_take_le hi
  rw [marksIs_get hi] at h1 h2
  rw [marks_length] at h1 h2
  exact ⟨_, _, h1, own_mints h2⟩
end Go.Proofs.YtbjhllmcnfncdaaDoor.G
