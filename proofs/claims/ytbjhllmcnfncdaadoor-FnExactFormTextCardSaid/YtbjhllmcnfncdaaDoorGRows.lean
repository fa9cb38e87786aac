/- Rows of rows of ints that are owned, each with its ints. No condition. -/
import Derived.Test.YtbjhllmcnfncdaaDoorGMap
namespace Go.Proofs.YtbjhllmcnfncdaaDoor.G
open Go Go.RowKit

def slicesI (vs : Vs) : List (List Int) → List Value
  | [] => []
  | f :: fs => .slice (vs 0).1 f.length (vs 0).2 :: slicesI vs.tl fs
def ownIs (T : TypeId) (vs : Vs) : List (List Int) → SA
  | [] => emp
  | f :: fs => star (own T 1 (vs 0).1 f.length (vs 0).2 (intsC f)) (ownIs T vs.tl fs)
/-- a row of rows, with all that it reaches -/
def ownRs (E T : TypeId) (q : Option Addr) (c : Nat) (vs : Vs) (rs : List (List Int)) : SA := star (own E 1 q rs.length c (slicesI vs rs)) (ownIs T vs rs)
@[simp] theorem slicesI_length : ∀ (vs : Vs) (fs : List (List Int)), (slicesI vs fs).length = fs.length
  | _, [] => rfl
  | vs, f :: fs => by simp [slicesI, slicesI_length]
theorem slicesI_get : ∀ {vs : Vs} {fs : List (List Int)} {i : Nat}, i < fs.length → (slicesI vs fs)[i]? = some (.slice (vs i).1 (rw_ fs i).length (vs i).2)
  | _, [], i, h => by simp at h
  | vs, f :: fs, 0, _ => rfl
  | vs, f :: fs, i + 1, h => by
    have := slicesI_get (vs := vs.tl) (fs := fs) (i := i) (by simpa using h)
    simpa [slicesI, Vs.tl, rw_] using this
theorem ownIs_get {T : TypeId} {h : HP} : ∀ {vs : Vs} {fs : List (List Int)} {i : Nat}, (ownIs T vs fs).holds h → i < fs.length → (own T 1 (vs i).1 (rw_ fs i).length (vs i).2 (intsC (rw_ fs i))).holds h
  | _, [], i, _, hi => by simp at hi
  | vs, f :: fs, 0, hh, _ => hh.1
  | vs, f :: fs, i + 1, hh, hi => ownIs_get (vs := vs.tl) (fs := fs) hh.2.1 (by simpa using hi)
theorem own_rows {E T : TypeId} {q : Option Addr} {c : Nat} {vs : Vs} {rs : List (List Int)} {h : HP} (hh : (ownRs E T q c vs rs).holds h) : RowsR h q rs := fun i hi => by
  have h1 := own_reads hh.1 i _ (slicesI_get hi)
  have h2 := ownIs_get hh.2.1 hi
  exact ⟨_, _, h1, own_le h2, own_ints h2⟩
theorem slicesI_app : ∀ (vs : Vs) (gs : List (List Int)) (f : List Int), slicesI vs (gs ++ [f]) = slicesI vs gs ++ [.slice (vs gs.length).1 f.length (vs gs.length).2]
  | vs, [], f => rfl
  | vs, g :: gs, f => by
    simp only [List.cons_append, slicesI]
    rw [slicesI_app vs.tl gs f]
    rfl
def setV (vs : Vs) (k : Nat) (x : Option Addr × Nat) : Vs := fun j => if j = k then x else vs j
theorem slicesI_congr : ∀ {gs : List (List Int)} {vs vs' : Vs}, (∀ j, j < gs.length → vs j = vs' j) → slicesI vs gs = slicesI vs' gs
  | [], _, _, _ => rfl
  | g :: gs, vs, vs', h => by
    have h0 := h 0 (by simp)
    have ih := slicesI_congr (gs := gs) (vs := vs.tl) (vs' := vs'.tl) fun j hj => h (j + 1) (by simpa using hj)
    simp only [slicesI, h0, ih]
theorem ownIs_congr {T : TypeId} : ∀ {gs : List (List Int)} {vs vs' : Vs}, (∀ j, j < gs.length → vs j = vs' j) → ownIs T vs gs = ownIs T vs' gs
  | [], _, _, _ => rfl
  | g :: gs, vs, vs', h => by
    have h0 := h 0 (by simp)
    have ih := ownIs_congr (T := T) (gs := gs) (vs := vs.tl) (vs' := vs'.tl) fun j hj => h (j + 1) (by simpa using hj)
    simp only [ownIs, h0, ih]
section
variable {B : World} {H0 H : HP} {w : World}
theorem Hp.isOut {T : TypeId} {f : List Int} : ∀ {L : List SA} {vs : Vs} {gs : List (List Int)}, Hp B H0 H (own T 1 (vs gs.length).1 f.length (vs gs.length).2 (intsC f) :: ownIs T vs gs :: L) w → Hp B H0 H (ownIs T vs (gs ++ [f]) :: L) w
  | L, vs, [], h => by
    have h1 : Hp B H0 H (own T 1 (vs 0).1 f.length (vs 0).2 (intsC f) :: L) w := (h.front (.s .z)).tail
    have h2 := (h1.emp.front (.s .z)).star
    exact h2
  | L, vs, g :: gs, h => by
    have h1 : Hp B H0 H (G.star (own T 1 (vs 0).1 g.length (vs 0).2 (intsC g)) (ownIs T vs.tl gs) :: own T 1 (vs.tl gs.length).1 f.length (vs.tl gs.length).2 (intsC f) :: L) w := h.front (.s .z)
    have h2 := h1.unstar
    have h3 : Hp B H0 H (own T 1 (vs.tl gs.length).1 f.length (vs.tl gs.length).2 (intsC f) :: ownIs T vs.tl gs :: own T 1 (vs 0).1 g.length (vs 0).2 (intsC g) :: L) w := (h2.front (.s .z)).front (.s (.s .z))
    have h4 := Hp.isOut (vs := vs.tl) (gs := gs) h3
    have h5 := (h4.front (.s .z)).star
    exact h5
/-- a row more: its slice stands behind the others already -/
theorem Hp.rsOut {E T : TypeId} {q q' : Option Addr} {c c' : Nat} {vs : Vs} {rs : List (List Int)} {r : List Int} {L : List SA} (h : Hp B H0 H (own E 1 q (rs.length + 1) c (slicesI vs rs ++ [.slice q' r.length c']) :: own T 1 q' r.length c' (intsC r) :: ownIs T vs rs :: L) w) : Hp B H0 H (ownRs E T q c (setV vs rs.length (q', c')) (rs ++ [r]) :: L) w := by
  have e : ∀ j, j < rs.length → setV vs rs.length (q', c') j = vs j := fun j hj => by unfold setV; rw [if_neg (by omega)]
  have e0 : setV vs rs.length (q', c') rs.length = (q', c') := by simp [setV]
  have h1 : Hp B H0 H (own T 1 (setV vs rs.length (q', c') rs.length).1 r.length (setV vs rs.length (q', c') rs.length).2 (intsC r) :: ownIs T (setV vs rs.length (q', c')) rs :: own E 1 q (rs.length + 1) c (slicesI vs rs ++ [.slice q' r.length c']) :: L) w := by
    rw [e0, ownIs_congr e]
    exact (h.front (.s (.s .z))).front (.s (.s .z))
  have h2 := Hp.isOut h1
  have h3 := (h2.front (.s .z)).star
  unfold ownRs
  rw [slicesI_app, e0, slicesI_congr e, List.length_append]
  exact h3
theorem Hp.rsNil {L : List SA} (E T : TypeId) {q : Option Addr} {c : Nat} (h : Hp B H0 H (own E 1 q 0 c [] :: L) w) : Hp B H0 H (ownRs E T q c nilVs [] :: L) w := by
  have h1 : Hp B H0 H (ownIs T nilVs [] :: own E 1 q 0 c [] :: L) w := h.emp
  exact (h1.front (.s .z)).star
end
end Go.Proofs.YtbjhllmcnfncdaaDoor.G
