/- Arrays sliced; copying from block to block. No condition. -/
import Derived.Test.YtbjhllmcnfncdaaDoorGMrows
namespace Go.Proofs.YtbjhllmcnfncdaaDoor.G
open Go Go.RowKit
section
variable {P : Program} {ops : Array Oper} {Q : Exit → Act → World → Prop} {n : Nat} {B : World} {H0 H : HP} {rest : List Oper} {us : List (Nat × Value)} {L L' : List SA} {t : TypeId} {p : String} {af : Array Edge} {d : Nat} {x y : Operand}
theorem arr_law {ty e : TypeId} {N : Nat} (hu : P.underlying ty = some (.array N e)) : P.elem ty = e ∧ P.arrayLen ty = N := by
  simp [Program.elem, Program.arrayLen, hu]
/-- a[:] -/
theorem PR.sliceArr {ty e : TypeId} {g k N : Nat} (hu : P.underlying ty = some (.array N e)) (hs : Size P e 1) (hx : opv us x = some (.pointer (some ⟨g, k, none⟩))) :
    PR P n B H0 us H L (.slice ty x none none none) t (.slice (some ⟨g, k, none⟩) N N) :=
  fun _ _ _ _ a w hF _ => by
    obtain ⟨e1, e2⟩ := arr_law hu
    have h1 := run_sliceAt_array_all (P := P) w ty ⟨g, k, none⟩ (by rw [e1, e2]; exact hu)
    rw [e1, e2, hs.run] at h1
    simp [execOp, hF.ev hx, h1, slicedAt, Result.andThen, add_at]
/-- a[i:] -/
theorem PR.sliceArrL {ty e : TypeId} {g k N i' : Nat} {kk : IntKind} {i : Int} (hu : P.underlying ty = some (.array N e)) (hs : Size P e 1) (hx : opv us x = some (.pointer (some ⟨g, k, none⟩))) (hy : opv us y = some (.int kk i)) (hi : i = (i' : Int)) (hl : i' < N) :
    PR P n B H0 us H L (.slice ty x (some y) none none) t (.slice (some ⟨g, k + i', none⟩) (N - i') (N - i')) :=
  fun _ _ _ _ a w hF _ => by
    subst hi
    obtain ⟨e1, e2⟩ := arr_law hu
    have h1 := run_sliceAt_array_l (P := P) w ty ⟨g, k, none⟩ (by rw [e1, e2]; exact hu) kk (i' : Int) (by omega) (by rw [e2]; omega)
    rw [e1, e2, hs.run] at h1
    have hne : ¬ N = i' := by omega
    simp [execOp, hF.ev hx, hF.ev hy, h1, slicedAt, Result.andThen, add_at, hne]
/-- s[:i], wherever s lies -/
theorem PR.sliceHi {ty e : TypeId} {q : Option Addr} {m c sz : Nat} {k : IntKind} {i : Int} {i' : Nat} (hu : P.underlying ty = some (.slice e)) (hs : Size P e sz) (hx : opv us x = some (.slice q m c)) (hy : opv us y = some (.int k i)) (hi : i = (i' : Int)) (hl : i' ≤ c) :
    PR P n B H0 us H L (.slice ty x none (some y) none) t (.slice q i' c) :=
  fun _ _ _ _ a w hF _ => by
    subst hi
    have hu' : P.underlying ty = some (.slice (P.elem ty)) := by rw [elem_slice hu]; exact hu
    have h1 := run_slice_h (P := P) (w := w) ty q m c hu' k (i' : Int) (by omega) (by omega)
    rw [elem_slice hu, hs.run] at h1
    have h2 := run_sliceAt_slice (P := P) (w := w) ty (.slice q m c) none (some (.int k (i' : Int))) none hu'
    rw [h1] at h2
    cases q <;> simp [execOp, hF.ev hx, hF.ev hy, h2, sliced, Result.andThen, add_at, Addr.add]
theorem cells_at {g o : Nat} {cs : List Value} {e : TypeId} {fr : Nat × Nat} {w : World} (hg : w.heap[g]? = some (.cells cs.toArray e fr)) {j : Nat} : w.cell? ((⟨g, o, none⟩ : Addr).add j) = cs[o + j]? := by
  rw [add_at]
  simp [World.cell?, hg]
/-- copy(d, s), both of elements of one cell each, s in another block -/
theorem J.copyB {td ts e et : TypeId} {g k m c g2 k2 m2 c2 : Nat} {cs cs2 cs' : List Value} {e2 : TypeId} {fr : Nat × Nat} (hu : P.underlying td = some (.slice e)) (hs : Size P e 1)
    (hx : opv us x = some (.slice (some ⟨g, k, none⟩) m c)) (hy : opv us y = some (.slice (some ⟨g2, k2, none⟩) m2 c2)) (hm : m ≤ m2) (hl : k + m ≤ cs.length) (hl2 : k2 + m ≤ cs2.length) (h1 : ∀ v ∈ cs2, v.oneCell' = true)
    (he : cs.take k ++ (cs2.drop k2).take m ++ cs.drop (k + m) = cs') (hat2 : At L (obj g2 (.cells cs2.toArray e2 fr)) (obj g2 (.cells cs2.toArray e2 fr)) L) (hat : At L (obj g (.cells cs.toArray et (0, 0))) (obj g (.cells cs'.toArray et (0, 0))) L') (hd : Nat.blt d n = true)
    (hk : J P ops Q n B H0 rest ((d, .int .i64 (m : Int)) :: us) H L') :
    J P ops Q n B H0 (⟨some d, .call { callee := .builtin .copy, args := #[x, y], argTypes := #[td, ts] }, t, p, af, none⟩ :: rest) us H L := by
  subst he
  have hn : ((cs2.drop k2).take m).length = m := by simp; omega
  refine J.val hd fun a w hF hH => ⟨.int .i64 (m : Int), _, ?_, fun a' hF' => hk a' _ hF' (hH.setRow hat)⟩
  have hg : w.heap[g]? = some (.cells cs.toArray et (0, 0)) := (hH.objs _ hat.mem).1
  have hg2 : w.heap[g2]? = some (.cells cs2.toArray e2 fr) := (hH.objs _ hat2.mem).1
  have hld := run_loadCells_list (P := P) w ⟨g2, k2, none⟩ ((cs2.drop k2).take m) (fun j v hj => by
    rw [cells_at hg2]
    rw [List.getElem?_take] at hj
    split at hj
    · rw [List.getElem?_drop] at hj; exact hj
    · cases hj)
  have hst := run_storeCells_at P g k et ((cs2.drop k2).take m) 0 cs.toArray w hg (by rw [hn]; simp; omega) (fun v hv => h1 v (List.mem_of_mem_drop (List.mem_of_mem_take hv)))
  rw [hn] at hld hst
  simp only [Nat.add_zero, List.toList_toArray] at hst
  have hmin : Nat.min m2 m = m := Nat.min_eq_right hm
  unfold Size at hs
  cases hq : P.info? e with
  | none => simp [hq] at hs
  | some i =>
    have hi : i.size = 1 := by simpa [hq] using hs
    simp [execOp, resolve, invoke, builtin, hF.ev hx, hF.ev hy, Builtin.copy_, run_underlying hu, Builtin.lenOf, Builtin.firstCells, sizeOf, typeInfo, hq, hi, hmin, hld, hst, goInt]
end
/-- generators b places further -/
def shM (b : Nat) (m : List Int) : List Int := (List.range 8).map fun i => if i < b then 0 else m.getD (i - b) 0
@[simp] theorem shM_len (b : Nat) (m : List Int) : (shM b m).length = 8 := by simp [shM]
theorem shM_get {b : Nat} {m : List Int} {j : Nat} (hj : j < 8) : (shM b m).getD j 0 = if j < b then 0 else m.getD (j - b) 0 := by
  unfold shM
  rw [List.getD_eq_getElem?_getD, List.getElem?_map, List.getElem?_range hj]
  rfl
theorem shM_mono {b : Nat} {m : List Int} (h : Mono m) : Mono (shM b m) := ⟨by simp, fun j => by
  rcases Nat.lt_or_ge j 8 with hj | hj
  · rw [shM_get hj]
    split
    · omega
    · exact h.bd _
  · rw [List.getD_eq_getElem?_getD, List.getElem?_eq_none (by simp; omega)]
    simp⟩
theorem shM_zero {m : List Int} (h : m.length = 8) : shM 0 m = m := by
  apply List.ext_getElem (by simp [h])
  intro j h1 h2
  have h3 : j < 8 := by simpa using h1
  have := shM_get (b := 0) (m := m) h3
  rw [if_neg (by omega), Nat.sub_zero, List.getD_eq_getElem?_getD, List.getD_eq_getElem?_getD, List.getElem?_eq_getElem h1, List.getElem?_eq_getElem h2] at this
  exact this
def sh1 (b : Nat) (t : Term) : Term := ⟨shM b t.mono, t.fac⟩
theorem sh1_wf {b : Nat} {t : Term} (h : t.wf) : (sh1 b t).wf := ⟨shM_mono h.mono, h.fac⟩
theorem sh1_zero {t : Term} (h : t.wf) : sh1 0 t = t := by unfold sh1; rw [shM_zero h.mono.len]
def shF (b : Nat) (ts : List Term) : List Term := ts.map (sh1 b)
@[simp] theorem shF_len (b : Nat) (ts : List Term) : (shF b ts).length = ts.length := by simp [shF]
theorem shF_wf {b : Nat} {ts : List Term} (h : Wfs ts) : Wfs (shF b ts) := fun t ht => by
  obtain ⟨u, hu, rfl⟩ := List.mem_map.1 ht
  exact sh1_wf (h u hu)
theorem shF_zero {ts : List Term} (h : Wfs ts) : shF 0 ts = ts := by
  unfold shF
  conv => rhs; rw [← List.map_id ts]
  exact List.map_congr_left fun t ht => sh1_zero (h t ht)
def shK (b : Nat) (ts : List Term) (k : Nat) : List Term := (ts.take k).map (sh1 b)
theorem shK_len {b : Nat} {ts : List Term} {k : Nat} (hk : k ≤ ts.length) : (shK b ts k).length = k := by simp [shK]; omega
theorem shK_succ {b : Nat} {ts : List Term} {k : Nat} (hk : k < ts.length) : shK b ts (k + 1) = shK b ts k ++ [sh1 b (tm ts k)] := by
  unfold shK
  rw [List.take_succ_eq_append_getElem hk, List.map_append]
  simp [tm, List.getD_eq_getElem?_getD, List.getElem?_eq_getElem hk]
theorem shK_end (b : Nat) (ts : List Term) : shK b ts ts.length = shF b ts := by simp [shK, shF]
theorem shK_wf {b : Nat} {ts : List Term} {k : Nat} (h : Wfs ts) : Wfs (shK b ts k) := fun t ht => by
  obtain ⟨u, hu, rfl⟩ := List.mem_map.1 ht
  exact sh1_wf (h u (List.mem_of_mem_take hu))
/-- the first i generators moved -/
def shP (b : Nat) (m : List Int) (i : Nat) : List Int := (List.range 8).map fun j => if b ≤ j ∧ j < b + i then m.getD (j - b) 0 else 0
@[simp] theorem shP_len (b : Nat) (m : List Int) (i : Nat) : (shP b m i).length = 8 := by simp [shP]
theorem shP_mono {b : Nat} {m : List Int} {i : Nat} (h : Mono m) : Mono (shP b m i) := ⟨by simp, fun j => by
  unfold shP
  rw [List.getD_eq_getElem?_getD, List.getElem?_map]
  rcases Nat.lt_or_ge j 8 with hj | hj
  · rw [List.getElem?_range hj]
    show 0 ≤ (if b ≤ j ∧ j < b + i then m.getD (j - b) 0 else 0) ∧ (if b ≤ j ∧ j < b + i then m.getD (j - b) 0 else 0) ≤ 255
    split
    · exact h.bd _
    · omega
  · rw [List.getElem?_eq_none (by simp; omega)]
    simp⟩
theorem shP_zero (b : Nat) (m : List Int) : shP b m 0 = List.replicate 8 0 := by
  unfold shP
  apply List.ext_getElem (by simp)
  intro j h1 h2
  simp only [List.getElem_map, List.getElem_range, List.getElem_replicate]
  rw [if_neg (by omega)]
theorem shP_succ {b : Nat} {m : List Int} {i : Nat} (hi : i + b < 8) : (shP b m i).set (i + b) (m.getD i 0) = shP b m (i + 1) := by
  apply List.ext_getElem (by simp)
  intro j h1 h2
  rw [List.getElem_set]
  simp only [shP, List.getElem_map, List.getElem_range]
  by_cases e : i + b = j
  · subst e
    rw [if_pos rfl, if_pos (by omega)]
    congr 1
    omega
  · rw [if_neg e]
    by_cases e2 : b ≤ j ∧ j < b + i
    · rw [if_pos e2, if_pos (by omega)]
    · rw [if_neg e2, if_neg (by omega)]
theorem shP_end {b : Nat} {m : List Int} {i : Nat} (hi : 8 ≤ i + b) : shP b m i = shM b m := by
  apply List.ext_getElem (by simp)
  intro j h1 h2
  have h3 : j < 8 := by simpa using h1
  simp only [shP, shM, List.getElem_map, List.getElem_range]
  by_cases e : j < b
  · rw [if_neg (by omega), if_pos e]
  · rw [if_pos (by omega), if_neg e]
theorem shM_copy {b : Nat} {t : Term} (hb : b < 8) (h : t.wf) : ([.int .u8 0, .int .u8 0, .int .u8 0, .int .u8 0, .int .u8 0, .int .u8 0, .int .u8 0, .int .u8 0] : List Value).take (0 + b) ++ (t.c.drop 0).take (8 - b) ++ ([.int .u8 0, .int .u8 0, .int .u8 0, .int .u8 0, .int .u8 0, .int .u8 0, .int .u8 0, .int .u8 0] : List Value).drop (0 + b + (8 - b)) = bytesC (shM b t.mono) := by
  obtain ⟨a0, a1, a2, a3, a4, a5, a6, a7, e⟩ := list8_ex h.mono.len
  unfold Term.c
  rw [e]
  rcases (by omega : b = 0 ∨ b = 1 ∨ b = 2 ∨ b = 3 ∨ b = 4 ∨ b = 5 ∨ b = 6 ∨ b = 7) with hb | hb | hb | hb | hb | hb | hb | hb <;> subst hb <;> rfl
end Go.Proofs.YtbjhllmcnfncdaaDoor.G
