/- Slices of slices, clearing, copying. No condition. -/
import Derived.Test.YtbjhllmcnfncdaaDoorGMake
namespace Go.Proofs.YtbjhllmcnfncdaaDoor.G
open Go Go.RowKit
section
variable {P : Program} {ops : Array Oper} {Q : Exit → Act → World → Prop} {n : Nat} {B : World} {H0 H : HP} {rest : List Oper} {us : List (Nat × Value)} {L L' : List SA} {t : TypeId} {p : String} {af : Array Edge} {d : Nat} {x y : Operand}
theorem elem_slice {ty e : TypeId} (hu : P.underlying ty = some (.slice e)) : P.elem ty = e := by
  simp [Program.elem, hu]
/-- s[i:] -/
theorem PR.sliceLow {ty e : TypeId} {g m c sz : Nat} {k : IntKind} {i : Int} {i' : Nat} (hu : P.underlying ty = some (.slice e)) (hs : Size P e sz) (hx : opv us x = some (.slice (some ⟨g, 0, none⟩) m c)) (hy : opv us y = some (.int k i)) (hi : i = (i' : Int)) (hl : i' ≤ m) (hc : i' < c) :
    PR P n B H0 us H L (.slice ty x (some y) none none) t (.slice (some ⟨g, i' * sz, none⟩) (m - i') (c - i')) :=
  fun _ _ _ _ a w hF _ => by
    subst hi
    have hu' : P.underlying ty = some (.slice (P.elem ty)) := by rw [elem_slice hu]; exact hu
    have h1 := run_slice_l (P := P) (w := w) ty (some ⟨g, 0, none⟩) m c hu' k (i' : Int) (by omega) (by omega)
    rw [elem_slice hu, hs.run] at h1
    have h2 := run_sliceAt_slice (P := P) (w := w) ty (.slice (some ⟨g, 0, none⟩) m c) (some (.int k (i' : Int))) none none hu'
    rw [h1] at h2
    have hne : ¬ c = i' := by omega
    simp [execOp, hF.ev hx, hF.ev hy, h2, sliced, Result.andThen, add_at, hne]
/-- s[:i] -/
theorem PR.sliceHigh {ty e : TypeId} {g m c sz : Nat} {k : IntKind} {i : Int} {i' : Nat} (hu : P.underlying ty = some (.slice e)) (hs : Size P e sz) (hx : opv us x = some (.slice (some ⟨g, 0, none⟩) m c)) (hy : opv us y = some (.int k i)) (hi : i = (i' : Int)) (hl : i' ≤ c) :
    PR P n B H0 us H L (.slice ty x none (some y) none) t (.slice (some ⟨g, 0, none⟩) i' c) :=
  fun _ _ _ _ a w hF _ => by
    subst hi
    have hu' : P.underlying ty = some (.slice (P.elem ty)) := by rw [elem_slice hu]; exact hu
    have h1 := run_slice_h (P := P) (w := w) ty (some ⟨g, 0, none⟩) m c hu' k (i' : Int) (by omega) (by omega)
    rw [elem_slice hu, hs.run] at h1
    have h2 := run_sliceAt_slice (P := P) (w := w) ty (.slice (some ⟨g, 0, none⟩) m c) none (some (.int k (i' : Int))) none hu'
    rw [h1] at h2
    simp [execOp, hF.ev hx, hF.ev hy, h2, sliced, Result.andThen, add_at]
/-- a row opened -/
theorem J.openOwn {e : TypeId} {sz m c : Nat} {q : Option Addr} {cells : List Value} (hsz : 0 < sz) (hr : Rm L (own e sz q m c cells) L')
    (k0 : q = none → m = 0 → J P ops Q n B H0 rest us H (own e sz q m c cells :: L')) (k : ∀ (g : Nat) (cs : List Value), q = some ⟨g, 0, none⟩ → cs.length = c * sz → m ≤ c → c ≤ maxLen → cs.take (m * sz) = cells → J P ops Q n B H0 rest us H (obj g (.cells cs.toArray e (0, 0)) :: L')) :
    J P ops Q n B H0 rest us H L := fun a w hF hH =>
  (hH.front hr).openOwn hsz (fun h1 h2 _ _ => k0 h1 h2 a w hF (hH.front hr)) (fun g cs h1 _ h3 h4 h5 h6 h => k g cs h1 h3 h4 h5 h6 a w hF h)
theorem J.unitV {op : Op} {t : TypeId} {p : String} {af : Array Edge}
    (hrun : ∀ (a : Act) (w : World), Fr n us a → Hp B H0 H L w → ∃ v w', (execOp a.eval ⟨none, op, t, p, af, none⟩).run P w = .ok (.value v) w' ∧ wpList P ops Q rest a w') :
    J P ops Q n B H0 (⟨none, op, t, p, af, none⟩ :: rest) us H L := by
  intro a w hF hH
  obtain ⟨v, w', hr, hk⟩ := hrun a w hF hH
  refine wpList_plain rfl fun K hK => ?_
  unfold Oper.wp
  rw [hr]
  exact hK _ _ hk
/-- clear(s) -/
theorem J.clearT {ty e : TypeId} {g k m c : Nat} {cs : List Value} (hu : P.underlying ty = some (.slice e)) (hz : Zero P e (default : Term).c) (hx : opv us x = some (.slice (some ⟨g, k, none⟩) m c)) (hm : 0 < m) (hl : k + m * 9 ≤ cs.length)
    (hat : At L (obj g (.cells cs.toArray e (0, 0))) (obj g (.cells (cs.take k ++ tsC (List.replicate m default) ++ cs.drop (k + m * 9)).toArray e (0, 0))) L') (hk : J P ops Q n B H0 rest us H L') :
    J P ops Q n B H0 (⟨none, .call { callee := .builtin .clear, args := #[x], argTypes := #[ty] }, t, p, af, none⟩ :: rest) us H L := by
  have hwf : Wfs (List.replicate m (default : Term)) := fun t ht => by obtain ⟨_, rfl⟩ := List.mem_replicate.1 ht; exact zero_wf
  have hlen : (tsC (List.replicate m (default : Term))).length = m * 9 := by rw [tsC_length hwf, List.length_replicate]
  have hat2 := hat
  rw [← hlen] at hat2
  refine J.unitV fun a w hF hH => ⟨.tuple #[], _, ?_, hk a _ hF (hH.setRow hat2)⟩
  have hg : w.heap[g]? = some (.cells cs.toArray e (0, 0)) := (hH.objs _ hat.mem).1
  obtain ⟨z, hr, hc⟩ := hz.run w
  have hzc : (Builtin.zeroCells z.cells m).toList = tsC (List.replicate m default) := by
    have h1 := made_flat (default : Term).c m
    rw [tsC_zero] at h1
    rw [hc]
    have h2 : Builtin.zeroCells (default : Term).c.toArray m = madeCells (default : Term).c.toArray (m * (default : Term).c.length) := by
      simp [Builtin.zeroCells, madeCells]
    rw [h2, h1]
  have hst := run_storeCells_at P g k e (tsC (List.replicate m default)) 0 cs.toArray w hg (by simp [hlen]; omega) (tsC_one _)
  simp only [Nat.add_zero, List.toList_toArray] at hst
  obtain ⟨m', rfl⟩ : ∃ m', m = m' + 1 := ⟨m - 1, by omega⟩
  simp [execOp, resolve, invoke, builtin, hF.ev hx, Builtin.clear_, run_underlying hu, hr, hzc, hst]
end
end Go.Proofs.YtbjhllmcnfncdaaDoor.G
