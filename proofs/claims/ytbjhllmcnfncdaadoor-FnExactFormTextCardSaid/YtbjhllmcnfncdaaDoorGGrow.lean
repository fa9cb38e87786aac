/- Growing from nothing; rows of ints joined. No condition. -/
import Derived.Test.YtbjhllmcnfncdaaDoorGCopy
namespace Go.Proofs.YtbjhllmcnfncdaaDoor.G
open Go Go.RowKit
section
variable {P : Program} {ops : Array Oper} {Q : Exit → Act → World → Prop} {n : Nat} {B : World} {H0 H : HP} {rest : List Oper} {us : List (Nat × Value)} {L L' : List SA} {t : TypeId} {p : String} {af : Array Edge} {d : Nat} {x y : Operand}
theorem run_append_mk (w : World) (t ti ty e : TypeId) (i : TypeInfo) (z : Value) (ht : P.underlying t = some (.slice e)) (hti : P.underlying ti = some (.int .i64)) (hi : P.info? e = some i) (hz : i.zero = some z) (hs : i.size = 1)
    (n : Nat) (h0 : 0 < n) (hn : n ≤ 1048576) (hb : i.bytes ≤ 64) :
    (Builtin.append_ #[t, ti] ty #[.slice none 0 0, .int .i64 (n : Int)]).run P w =
      .ok (.slice (some ⟨w.heap.size, 0, none⟩) n (grownCap w n 0 e)) (w.drew.alloc (.cells (Builtin.zeroCells z.cells n ++ Builtin.zeroCells z.cells (grownCap w n 0 e - n)) e)) := by
  have hn' : n ≠ 0 := by omega
  have hnb : n * i.bytes ≤ 1048576 * 64 := Nat.mul_le_mul hn hb
  have h63' : ¬ (9223372036854775807 < (n : Int)) := by omega
  have h48' : ¬ (281474976710656 < Builtin.nextslicecap n 0 * i.bytes) := by rw [nextslicecap_zero h0]; omega
  have hw : IntKind.i64.wrap (n : Int) = (n : Int) := nw _ (by omega)
  have hl0 : ¬ ((n : Int) < 0) := by omega
  have h0i : ¬ ((n : Int) ≤ 0) := by omega
  have hmx : max (n : Int) 0 = n := by omega
  have h48i : ¬ ((281474976710656 : Int) < (n : Int) * (i.bytes : Int)) := by
    have : ((n * i.bytes : Nat) : Int) ≤ 1048576 * 64 := by omega
    rw [Int.natCast_mul] at this
    omega
  simp [Builtin.append_, run_underlying ht, run_underlying hti, sizeOf, typeInfo, zeroValue, hi, hz, hs, asInt, asIntOf, hw, hl0, h48i, h0i, hmx, hn', h63', h48', Question.forced, run_firstCells_none, newRow, grownCap]
theorem J.appendMk {ty ti e : TypeId} {z : Value} {bytes m : Nat} {j : Int} (hu : P.underlying ty = some (.slice e)) (hti : P.underlying ti = some (.int .i64)) (hz : Zero P e [z]) (hs : Size P e 1) (hb : Bytes P e bytes) (hB : Nat.ble bytes 64 = true)
    (hx : opv us x = some (.slice none 0 0)) (hy : opv us y = some (.int .i64 j)) (hj : j = (m : Int)) (h0 : 0 < m) (hm : m ≤ 1048576) (hd : Nat.blt d n = true)
    (hk : ∀ g c, J P ops Q n B H0 rest ((d, .slice (some ⟨g, 0, none⟩) m c) :: us) H (own e 1 (some ⟨g, 0, none⟩) 0 c [] :: L)) :
    J P ops Q n B H0 (⟨some d, .call { callee := .builtin .append, args := #[x, y], argTypes := #[ty, ti] }, t, p, af, none⟩ :: rest) us H L := by
  subst hj
  obtain ⟨i, z', hq, hiz, hzc, his, hib⟩ := info_of (z := [z]) hz hs hb
  have hB' := Nat.le_of_ble_eq_true hB
  refine J.val hd fun a w hF hH => ?_
  have hr := run_append_mk (P := P) w ty ti t e i z' hu hti hq hiz (by simpa using his) m h0 hm (by omega)
  have hge := grownCap_ge w m 0 e
  have hle := grownCap_le_maxLen w m 0 e (by simp only [maxLen]; omega)
  refine ⟨.slice (some ⟨w.heap.size, 0, none⟩) m (grownCap w m 0 e), _, ?_, fun a' hF' => hk w.heap.size (grownCap w m 0 e) a' (w.drew.alloc (.cells (Builtin.zeroCells z'.cells m ++ Builtin.zeroCells z'.cells (grownCap w m 0 e - m)) e)) hF' ?_⟩
  · simp [execOp, resolve, invoke, builtin, hF.ev hx, hF.ev hy, hr]
  · have hD : Hp B H0 H L w.drew := hH.chg0 (w' := w.drew) ⟨rfl, rfl, rfl, Nat.le_refl _, fun _ _ _ => rfl⟩
    have hA := hD.alloc (.cells (Builtin.zeroCells z'.cells m ++ Builtin.zeroCells z'.cells (grownCap w m 0 e - m)) e)
    have hsz : (Builtin.zeroCells z'.cells m ++ Builtin.zeroCells z'.cells (grownCap w m 0 e - m)).toList.length = grownCap w m 0 e := by
      rw [hzc]
      simp [Builtin.zeroCells]
      omega
    have h2 := own_of_obj (cs := (Builtin.zeroCells z'.cells m ++ Builtin.zeroCells z'.cells (grownCap w m 0 e - m)).toList) (m := 0) (c := grownCap w m 0 e) (sz := 1) (e := e) (g := w.heap.size) (L' := own e 1 (some ⟨w.heap.size, 0, none⟩) 0 (grownCap w m 0 e) [] :: L) hA (by rw [hsz]; omega) (Nat.zero_le _) hle .z
    exact h2
theorem PR.capS {ty e : TypeId} {q : Option Addr} {m c : Nat} (hu : P.underlying ty = some (.slice e)) (hx : opv us x = some (.slice q m c)) :
    PR P n B H0 us H L (.call { callee := .builtin .cap, args := #[x], argTypes := #[ty] }) t (.int .i64 (c : Int)) :=
  fun _ _ _ _ a w hF _ => by
    have hu' : P.underlying ty = some (.slice (P.elem ty)) := by rw [elem_slice hu]; exact hu
    simp [execOp, resolve, invoke, builtin, hF.ev hx, run_cap_slice w ty t q m c hu', goInt]
end
theorem obj_rows2 {g : Nat} {q1 q2 : Option Addr} {c1 c2 : Nat} {xs ys : List Int} {e : TypeId} {fr : Nat × Nat} {h : HP} (hh : (obj g (.cells [.slice q1 xs.length c1, .slice q2 ys.length c2].toArray e fr)).holds h) (h1 : Ints h q1 xs) (h2 : Ints h q2 ys) (l1 : xs.length ≤ c1) (l2 : ys.length ≤ c2) : RowsR h (some ⟨g, 0, none⟩) [xs, ys] := fun i hi => by
  have h0 : h g = some (.cells [.slice q1 xs.length c1, .slice q2 ys.length c2].toArray e fr) := hh
  match i, hi with
  | 0, _ => exact ⟨q1, c1, by simp [cellO, cellH, add_at, h0, rw_], l1, h1⟩
  | 1, _ => exact ⟨q2, c2, by simp [cellO, cellH, add_at, h0, rw_], l2, h2⟩
  | i + 2, hi => exact absurd hi (by simp)
theorem rw_eq' {rs : List (List Int)} {k : Nat} (hk : k < rs.length) : rs[k] = rw_ rs k := by simp [rw_, List.getD_eq_getElem?_getD, List.getElem?_eq_getElem hk]
/-- the first k rows joined -/
def flK (rs : List (List Int)) (k : Nat) : List Int := (rs.take k).flatten
theorem flK_len (rs : List (List Int)) (k : Nat) : (flK rs k).length = totI (rs.take k) := by
  unfold flK
  generalize rs.take k = l
  induction l with
  | nil => rfl
  | cons r l ih => simp [totI, ih]
theorem flK_succ {rs : List (List Int)} {k : Nat} (hk : k < rs.length) : flK rs (k + 1) = flK rs k ++ rw_ rs k := by
  unfold flK
  rw [List.take_succ_eq_append_getElem hk, List.flatten_append, rw_eq' hk]
  simp
theorem flK_end (rs : List (List Int)) : flK rs rs.length = rs.flatten := by simp [flK]
end Go.Proofs.YtbjhllmcnfncdaaDoor.G
