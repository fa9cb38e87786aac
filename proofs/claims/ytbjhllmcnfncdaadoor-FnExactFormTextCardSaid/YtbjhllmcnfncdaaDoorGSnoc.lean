/- A row of slices that grows by one slice, and what the slices reach. No condition. -/
import Derived.Test.YtbjhllmcnfncdaaDoorGRows
namespace Go.Proofs.YtbjhllmcnfncdaaDoor.G
open Go Go.RowKit

section
variable {P : Program} {ops : Array Oper} {Q : Exit → Act → World → Prop} {n : Nat} {B : World} {H0 H : HP} {rest : List Oper} {us : List (Nat × Value)} {L L1 : List SA} {t : TypeId} {p : String} {af : Array Edge} {d : Nat} {x y : Operand} {R : Act → World → Prop}
theorem MK.lit1S {ty e : TypeId} {u v z : Value} (hu : P.underlying ty = some (.slice e)) (hz : Zero P e [z]) (hs : Size P e 1) (hx : opv us x = some u) (hv : u.cells = [v].toArray) : MK P n us H (.buildSlice ty 1 #[(0, x)]) t (fun q c => .slice q 1 c) (fun q c => own e 1 q 1 c [v]) :=
  MK.lit1 (z := [z]) hu hz hs rfl rfl hx hv rfl
theorem J.append1 {ty e : TypeId} {q qt : Option Addr} {m c ct bytes : Nat} {cells : List Value} {v z : Value} (hu : P.underlying ty = some (.slice e)) (hz : Zero P e [z]) (hs : Size P e 1) (hb : Bytes P e bytes)
    (hx : opv us x = some (.slice q m c)) (hy : opv us y = some (.slice qt 1 ct)) (h1 : v.oneCell' = true) (hB : Nat.ble bytes 64 = true) (hm : m ≤ 1048576)
    (hr : Rm L (own e 1 qt 1 ct [v]) L1) (hat : At L1 (own e 1 q m c cells) (own e 1 q m c cells) L1) {L' : Option Addr → Nat → List SA} (hat' : ∀ q' c', At L1 (own e 1 q m c cells) (own e 1 q' (m + 1) c' (cells ++ [v])) (L' q' c')) (hd : Nat.blt d n = true)
    (hk : ∀ q' c', J P ops Q n B H0 rest ((d, .slice q' (m + 1) c') :: us) H (own e 1 qt 1 ct [v] :: L' q' c')) :
    J P ops Q n B H0 (⟨some d, .call { callee := .builtin .append, args := #[x, y], argTypes := #[ty, ty] }, t, p, af, none⟩ :: rest) us H L := by
  have hB' := Nat.le_of_ble_eq_true hB
  refine J.appendO (z := [z]) hu hz hs hb rfl hx hy (by simpa using h1) ?_ (by simp only [maxLen]; omega) hr hat hat' hd hk
  calc (m + 1) * bytes ≤ (m + 1) * 64 := Nat.mul_le_mul_left _ hB'
    _ ≤ 140737488355328 := by omega
theorem slicesI_set {vs : Vs} {rs : List (List Int)} {r : List Int} {q : Option Addr} {c k : Nat} (hk : rs.length = k) : slicesI (setV vs k (q, c)) (rs ++ [r]) = slicesI vs rs ++ [.slice q r.length c] := by
  subst hk
  rw [slicesI_app, slicesI_congr (vs' := vs) fun j hj => by unfold setV; rw [if_neg (by omega)]]
  simp [setV]
theorem EJ.isSnoc {T : TypeId} {q : Option Addr} {c k m : Nat} {rs : List (List Int)} {r : List Int} {vs : Vs} (hk : rs.length = k) (hm : r.length = m) (h : EJ R n B H0 us H (ownIs T (setV vs k (q, c)) (rs ++ [r]) :: L)) : EJ R n B H0 us H (own T 1 q m c (intsC r) :: ownIs T vs rs :: L) := fun a w hF hH => by
  subst hk
  subst hm
  refine h a w hF (Hp.isOut ?_)
  rw [show setV vs rs.length (q, c) rs.length = (q, c) by simp [setV], ownIs_congr (vs' := vs) fun j hj => by unfold setV; rw [if_neg (by omega)]]
  exact hH
theorem slicesC_snoc : ∀ (vs : Vs) (gs : List (List Term)) (f : List Term), slicesC vs (gs ++ [f]) = slicesC vs gs ++ [.slice (vs gs.length).1 f.length (vs gs.length).2]
  | vs, [], f => rfl
  | vs, g :: gs, f => by
    simp only [List.cons_append, slicesC]
    rw [slicesC_snoc vs.tl gs f]
    rfl
theorem slicesC_cong : ∀ {gs : List (List Term)} {vs vs' : Vs}, (∀ j, j < gs.length → vs j = vs' j) → slicesC vs gs = slicesC vs' gs
  | [], _, _, _ => rfl
  | g :: gs, vs, vs', h => by
    have h0 := h 0 (by simp)
    have ih := slicesC_cong (gs := gs) (vs := vs.tl) (vs' := vs'.tl) fun j hj => h (j + 1) (by simpa using hj)
    simp only [slicesC, h0, ih]
theorem ownTs_cong {T : TypeId} : ∀ {gs : List (List Term)} {vs vs' : Vs}, (∀ j, j < gs.length → vs j = vs' j) → ownTs T vs gs = ownTs T vs' gs
  | [], _, _, _ => rfl
  | g :: gs, vs, vs', h => by
    have h0 := h 0 (by simp)
    have ih := ownTs_cong (T := T) (gs := gs) (vs := vs.tl) (vs' := vs'.tl) fun j hj => h (j + 1) (by simpa using hj)
    simp only [ownTs, h0, ih]
theorem slicesC_set {vs : Vs} {fs : List (List Term)} {f : List Term} {q : Option Addr} {c k : Nat} (hk : fs.length = k) : slicesC (setV vs k (q, c)) (fs ++ [f]) = slicesC vs fs ++ [.slice q f.length c] := by
  subst hk
  rw [slicesC_snoc, slicesC_cong (vs' := vs) fun j hj => by unfold setV; rw [if_neg (by omega)]]
  simp [setV]
theorem EJ.fsSnoc {T : TypeId} {q : Option Addr} {c k m : Nat} {fs : List (List Term)} {f : List Term} {vs : Vs} (hk : fs.length = k) (hm : f.length = m) (h : EJ R n B H0 us H (ownTs T (setV vs k (q, c)) (fs ++ [f]) :: L)) : EJ R n B H0 us H (own T 9 q m c (tsC f) :: ownTs T vs fs :: L) := fun a w hF hH => by
  subst hk
  subst hm
  refine h a w hF (Hp.fsOut ?_)
  rw [show setV vs fs.length (q, c) fs.length = (q, c) by simp [setV], ownTs_cong (vs' := vs) fun j hj => by unfold setV; rw [if_neg (by omega)]]
  exact hH
/-- a row of slices of nothing yet -/
theorem J.is0 (T : TypeId) (k : J P ops Q n B H0 rest us H (ownIs T nilVs [] :: L)) : J P ops Q n B H0 rest us H L := fun a w hF hH => k a w hF hH.emp
theorem J.ts0 (T : TypeId) (k : J P ops Q n B H0 rest us H (ownTs T nilVs [] :: L)) : J P ops Q n B H0 rest us H L := fun a w hF hH => k a w hF hH.emp
theorem EJ.is0 (T : TypeId) (k : EJ R n B H0 us H (ownIs T nilVs [] :: L)) : EJ R n B H0 us H L := fun a w hF hH => k a w hF hH.emp
theorem EJ.ts0 (T : TypeId) (k : EJ R n B H0 us H (ownTs T nilVs [] :: L)) : EJ R n B H0 us H L := fun a w hF hH => k a w hF hH.emp
end
theorem obj_ints {g : Nat} {xs : List Int} {e : TypeId} {fr : Nat × Nat} {h : HP} (hh : (obj g (.cells (intsC xs).toArray e fr)).holds h) : Ints h (some ⟨g, 0, none⟩) xs := Ints.of fun j v hj => by
  have h1 : h g = some (.cells (intsC xs).toArray e fr) := hh
  simp only [cellO, cellH, add_at, h1, Option.bind]
  simpa [intsC] using hj
end Go.Proofs.YtbjhllmcnfncdaaDoor.G
