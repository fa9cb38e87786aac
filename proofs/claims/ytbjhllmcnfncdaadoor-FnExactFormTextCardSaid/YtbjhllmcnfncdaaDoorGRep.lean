/- Operations on given numbers; copying from what is fixed, and within one block. No condition. -/
import Derived.Test.YtbjhllmcnfncdaaDoorGGrow
namespace Go.Proofs.YtbjhllmcnfncdaaDoor.G
open Go Go.RowKit
section
variable {P : Program} {ops : Array Oper} {Q : Exit → Act → World → Prop} {n : Nat} {B : World} {H0 H : HP} {rest : List Oper} {us : List (Nat × Value)} {L L' : List SA} {t : TypeId} {p : String} {af : Array Edge} {d : Nat} {x y : Operand}
theorem PR.binC {o : BinOp} {xt yt : TypeId} {k k2 : IntKind} {i j : Int} {r : Value} (hx : opv us x = some (.int k i)) (hy : opv us y = some (.int k2 j)) (hr : Go.binOp o xt (.int k i) (.int k2 j) = pure r) :
    PR P n B H0 us H L (.binOp o xt x y yt) t r :=
  fun _ _ _ _ a w hF _ => by simp [execOp, hF.ev hx, hF.ev hy, eqGuard_at_int, hr]
/-- s[i:] of a whole block of elements of one cell -/
theorem PR.sliceLow1 {ty e : TypeId} {g m c : Nat} {k : IntKind} {i : Int} {i' : Nat} (hu : P.underlying ty = some (.slice e)) (hs : Size P e 1) (hx : opv us x = some (.slice (some ⟨g, 0, none⟩) m c)) (hy : opv us y = some (.int k i)) (hi : i = (i' : Int)) (hl : i' ≤ m) (hc : i' < c) :
    PR P n B H0 us H L (.slice ty x (some y) none none) t (.slice (some ⟨g, i', none⟩) (m - i') (c - i')) := by
  have h := PR.sliceLow (P := P) (n := n) (B := B) (H0 := H0) (H := H) (L := L) (t := t) hu hs hx hy hi hl hc
  rw [Nat.mul_one] at h
  exact h
/-- copy(d, s): s is fixed -/
theorem J.copyH {td ts e et : TypeId} {g k m c m2 c2 cnt : Nat} {qa : Option Addr} {cs ds cs' : List Value} (hu : P.underlying td = some (.slice e)) (hs : Size P e 1)
    (hx : opv us x = some (.slice (some ⟨g, k, none⟩) m c)) (hy : opv us y = some (.slice qa m2 c2)) (hq : qa.isSome = true) (hcnt : Nat.min m2 m = cnt) (hdl : ds.length = cnt) (hl : k + cnt ≤ cs.length) (h1 : ∀ v ∈ ds, v.oneCell' = true)
    (hsrc : ∀ j v, ds[j]? = some v → cellO H qa j = some v)
    (he : cs.take k ++ ds ++ cs.drop (k + cnt) = cs') (hat : At L (obj g (.cells cs.toArray et (0, 0))) (obj g (.cells cs'.toArray et (0, 0))) L') (hd : Nat.blt d n = true)
    (hk : J P ops Q n B H0 rest ((d, .int .i64 (cnt : Int)) :: us) H L') :
    J P ops Q n B H0 (⟨some d, .call { callee := .builtin .copy, args := #[x, y], argTypes := #[td, ts] }, t, p, af, none⟩ :: rest) us H L := by
  subst he
  obtain ⟨qb, rfl⟩ := Option.isSome_iff_exists.1 hq
  refine J.val hd fun a w hF hH => ⟨.int .i64 (cnt : Int), _, ?_, fun a' hF' => hk a' _ hF' (hH.setRow hat)⟩
  have hg : w.heap[g]? = some (.cells cs.toArray et (0, 0)) := (hH.objs _ hat.mem).1
  have hld := run_loadCells_list (P := P) w qb ds (fun j v hj => cellH_w hH.agree (hsrc j v hj))
  have hst := run_storeCells_at P g k et ds 0 cs.toArray w hg (by rw [hdl]; simp; omega) h1
  rw [hdl] at hld hst
  simp only [Nat.add_zero, List.toList_toArray] at hst
  unfold Size at hs
  cases hq2 : P.info? e with
  | none => simp [hq2] at hs
  | some i =>
    have hi : i.size = 1 := by simpa [hq2] using hs
    simp [execOp, resolve, invoke, builtin, hF.ev hx, hF.ev hy, Builtin.copy_, run_underlying hu, Builtin.lenOf, Builtin.firstCells, sizeOf, typeInfo, hq2, hi, hcnt, hld, hst, goInt]
/-- copy(s[k:], s[:m2]) -/
theorem J.copyS {td ts e et : TypeId} {g k m c m2 c2 cnt : Nat} {cs cs' : List Value} (hu : P.underlying td = some (.slice e)) (hs : Size P e 1)
    (hx : opv us x = some (.slice (some ⟨g, k, none⟩) m c)) (hy : opv us y = some (.slice (some ⟨g, 0, none⟩) m2 c2)) (hcnt : Nat.min m2 m = cnt) (hl : k + cnt ≤ cs.length) (h1 : ∀ v ∈ cs, v.oneCell' = true)
    (he : cs.take k ++ cs.take cnt ++ cs.drop (k + cnt) = cs') (hat : At L (obj g (.cells cs.toArray et (0, 0))) (obj g (.cells cs'.toArray et (0, 0))) L') (hd : Nat.blt d n = true)
    (hk : J P ops Q n B H0 rest ((d, .int .i64 (cnt : Int)) :: us) H L') :
    J P ops Q n B H0 (⟨some d, .call { callee := .builtin .copy, args := #[x, y], argTypes := #[td, ts] }, t, p, af, none⟩ :: rest) us H L := by
  subst he
  have hdl : (cs.take cnt).length = cnt := by simp; omega
  refine J.val hd fun a w hF hH => ⟨.int .i64 (cnt : Int), _, ?_, fun a' hF' => hk a' _ hF' (hH.setRow hat)⟩
  have hg : w.heap[g]? = some (.cells cs.toArray et (0, 0)) := (hH.objs _ hat.mem).1
  have hld := run_loadCells_list (P := P) w ⟨g, 0, none⟩ (cs.take cnt) (fun j v hj => by
    rw [cells_at hg, Nat.zero_add]
    rw [List.getElem?_take] at hj
    split at hj
    · exact hj
    · cases hj)
  have hst := run_storeCells_at P g k et (cs.take cnt) 0 cs.toArray w hg (by rw [hdl]; simp; omega) (fun v hv => h1 v (List.mem_of_mem_take hv))
  rw [hdl] at hld hst
  simp only [Nat.add_zero, List.toList_toArray] at hst
  unfold Size at hs
  cases hq2 : P.info? e with
  | none => simp [hq2] at hs
  | some i =>
    have hi : i.size = 1 := by simpa [hq2] using hs
    simp [execOp, resolve, invoke, builtin, hF.ev hx, hF.ev hy, Builtin.copy_, run_underlying hu, Builtin.lenOf, Builtin.firstCells, sizeOf, typeInfo, hq2, hi, hcnt, hld, hst, goInt]
end
/-- the first k are v -/
def repK (v : Int) (k n : Nat) : List Int := List.replicate k v ++ List.replicate (n - k) 0
theorem repK_len {v : Int} {k n : Nat} (hk : k ≤ n) : (repK v k n).length = n := by simp [repK]; omega
theorem repK_zero (v : Int) (n : Nat) : repK v 0 n = List.replicate n 0 := by simp [repK]
theorem repK_end (v : Int) (n : Nat) : repK v n n = List.replicate n v := by simp [repK]
theorem repC (v : Int) (k n : Nat) : intsC (repK v k n) = List.replicate k (.int .i64 v) ++ List.replicate (n - k) (.int .i64 0) := by simp [repK, intsC]
theorem repK_copy {v : Int} {k n c : Nat} (hc : c ≤ k) (hn : k + c ≤ n) : (intsC (repK v k n)).take k ++ (intsC (repK v k n)).take c ++ (intsC (repK v k n)).drop (k + c) = intsC (repK v (k + c) n) := by
  rw [repC, repC, List.take_append_of_le_length (by simp), List.take_append_of_le_length (by simpa using hc), List.drop_append, List.drop_of_length_le (by simp)]
  simp only [List.length_replicate, List.take_replicate, List.drop_replicate, List.nil_append, Nat.min_self, List.replicate_append_replicate]
  rw [Nat.min_eq_left hc, show n - k - (k + c - k) = n - (k + c) by omega]
theorem repK_first {v : Int} {n : Nat} (hn : 0 < n) : (intsC (List.replicate n 0)).take 0 ++ intsC [v] ++ (intsC (List.replicate n 0)).drop (0 + 1) = intsC (repK v 1 n) := by
  rw [repC]
  simp [intsC]
theorem repK_start (v : Int) (n : Nat) : (intsC (List.replicate n 0)).take 0 ++ (intsC [v]).take (min 1 n) ++ (intsC (List.replicate n 0)).drop (0 + min 1 n) = intsC (repK v (min 1 n) n) := by
  rcases Nat.eq_zero_or_pos n with h | h
  · subst h
    simp [repK, intsC]
  · rw [Nat.min_eq_left h]
    exact repK_first h
theorem ints_src {H : HP} {q : Option Addr} {xs : List Int} (h : Ints H q xs) (k : Nat) : ∀ j u, ((intsC xs).take k)[j]? = some u → cellO H q j = some u := fun j u hj => by
  rw [List.getElem?_take] at hj
  split at hj
  · rcases Nat.lt_or_ge j xs.length with h1 | h1
    · rw [intsC_get h1] at hj
      rw [h j h1]
      exact hj
    · rw [List.getElem?_eq_none (by rw [intsC_length]; exact h1)] at hj
      cases hj
  · cases hj
theorem nwU {n : Nat} (h : n ≤ 8) : IntKind.u64.wrap (n : Int) = n := by
  rcases (by omega : n = 0 ∨ n = 1 ∨ n = 2 ∨ n = 3 ∨ n = 4 ∨ n = 5 ∨ n = 6 ∨ n = 7 ∨ n = 8) with h | h | h | h | h | h | h | h | h <;> subst h <;> rfl
end Go.Proofs.YtbjhllmcnfncdaaDoor.G
