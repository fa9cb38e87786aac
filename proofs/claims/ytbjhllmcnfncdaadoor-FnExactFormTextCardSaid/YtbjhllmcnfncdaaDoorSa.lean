/- Texts of forms: by their bytes. No condition. -/
import Derived.Test.YtbjhllmcnfncdaaDoorGStr
import Derived.Test.YtbjhllmcnfncdaaDoorProg
import Derived.Test.YtbjhllmcnfncdaaDoorWa
import Derived.Test.YtbjhllmcnfncdaaDoorWb
import Derived.Test.YtbjhllmcnfncdaaDoorWc
import Derived.Test.YtbjhllmcnfncdaaDoorWd
import Derived.Test.YtbjhllmcnfncdaaDoorWe
set_option linter.unusedVariables false
set_option linter.unusedSimpArgs false
namespace Go.Proofs.YtbjhllmcnfncdaaDoor.G
open Go Go.RowKit
namespace Sa

end Sa
open Sa

theorem stm_eq {xs : List Term} {j : Nat} (hj : j < xs.length) : xs[j] = tm xs j := by simp [tm, List.getD_eq_getElem?_getD, List.getElem?_eq_getElem hj]
theorem stm_take {ts : List Term} {k : Nat} (hk : k < ts.length) : ts.take (k + 1) = ts.take k ++ [tm ts k] := by rw [List.take_succ_eq_append_getElem hk, stm_eq hk]
def decL (n : Int) : List UInt8 := Lib.decDigits n.toNat
theorem decL_small {n : Int} (h : 0 ≤ n) (h1 : n < 10) : decL n = [UInt8.ofNat (48 + n).toNat] := by
  unfold decL
  rw [Lib.decDigits_one (by omega)]
  congr 2
  omega
theorem decL_big {n : Int} (h : 0 ≤ n) (h1 : ¬ n < 10) : decL n = decL (n.tdiv 10) ++ [UInt8.ofNat (48 + n.tmod 10).toNat] := by
  have e1 : (n.tdiv 10).toNat = n.toNat / 10 := by rw [Int.tdiv_eq_ediv_of_nonneg h]; omega
  have e2 : (48 + n.tmod 10).toNat = 48 + n.toNat % 10 := by rw [Int.tmod_eq_emod_of_nonneg h]; omega
  unfold decL
  rw [e1, e2, Lib.decDigits, dif_neg (by omega)]
theorem decL_itoa {n : Int} (h : 0 ≤ n) : Lib.itoa n = decL n := by
  unfold Lib.itoa decL
  rw [if_neg (by omega)]
theorem nDigits_le : ∀ (k u : Nat), u < 10 ^ k → 1 ≤ k → Lib.nDigits u ≤ k
  | 0, _, _, h => by omega
  | k + 1, u, h, _ => by
    by_cases hu : u < 10
    · rw [Lib.nDigits_small hu]; omega
    · rw [Lib.nDigits_big hu]
      rw [Nat.pow_succ] at h
      have hk : 1 ≤ k := by
        rcases Nat.eq_zero_or_pos k with h0 | h0
        · subst h0; simp at h; omega
        · exact h0
      have := nDigits_le k (u / 10) (by omega) hk
      omega
theorem decL_len {n : Int} (h : 0 ≤ n) (h1 : n ≤ 9223372036854775807) : (decL n).length ≤ 19 := by
  unfold decL
  rw [Lib.decDigits_length]
  exact nDigits_le 19 _ (by have : (10 : Nat) ^ 19 = 10000000000000000000 := by decide
                            omega) (by omega)
/-- a letter for the generator at i, and its exponent -/
def letT (m : List Int) (i : Nat) : List UInt8 := (if 0 < m.getD i 0 then [UInt8.ofNat (97 + (i : Int)).toNat] else []) ++ (if 1 < m.getD i 0 then decL (m.getD i 0) else [])
def monT (m : List Int) : Nat → List UInt8
  | 0 => []
  | i + 1 => monT m i ++ letT m i
theorem monT_len {m : List Int} (h : ∀ j, 0 ≤ m.getD j 0 ∧ m.getD j 0 ≤ 255) : ∀ k, (monT m k).length ≤ 20 * k
  | 0 => by simp [monT]
  | k + 1 => by
    have h1 := monT_len h k
    have h2 := decL_len (h k).1 (by have := h k; omega)
    have h3 : (letT m k).length ≤ 20 := by
      unfold letT
      rw [List.length_append]
      split <;> split <;> simp only [List.length_singleton, List.length_nil] <;> omega
    simp only [monT, List.length_append]
    omega
theorem monT_yy {m : List Int} {i : Nat} (h1 : 0 < m.getD i 0) (h2 : 1 < m.getD i 0) : (monT m i ++ [UInt8.ofNat (97 + (i : Int)).toNat]) ++ decL (m.getD i 0) = monT m (i + 1) := by
  simp only [monT, letT]
  rw [if_pos h1, if_pos h2, List.append_assoc]
theorem monT_yn {m : List Int} {i : Nat} (h1 : 0 < m.getD i 0) (h2 : ¬ 1 < m.getD i 0) : monT m i ++ [UInt8.ofNat (97 + (i : Int)).toNat] = monT m (i + 1) := by
  simp only [monT, letT]
  rw [if_pos h1, if_neg h2, List.append_nil]
theorem monT_nn {m : List Int} {i : Nat} (h1 : ¬ 0 < m.getD i 0) : monT m i = monT m (i + 1) := by
  simp only [monT, letT]
  rw [if_neg h1, if_neg (by omega), List.append_nil, List.append_nil]
def nameT (m : List Int) : List UInt8 := if monT m 8 = [] then [49] else monT m 8
theorem nameT_len {m : List Int} (h : ∀ j, 0 ≤ m.getD j 0 ∧ m.getD j 0 ≤ 255) : (nameT m).length ≤ 160 := by
  unfold nameT
  split
  · simp
  · exact monT_len h 8
def termT (t : Term) : List UInt8 := (decL t.fac ++ [42]) ++ nameT t.mono
def textT (ts : List Term) : List UInt8 := if ts.length = 0 then [48] else Lib.join (ts.map termT) [43]
/-- the texts of the first k terms, with signs between them -/
def preT (ts : List Term) : Nat → List UInt8
  | 0 => []
  | k + 1 => (if 0 < k then preT ts k ++ [43] else preT ts k) ++ termT (tm ts k)
theorem joinTail_app (sep : List UInt8) : ∀ (r : List (List UInt8)) (x : List UInt8), Lib.joinTail sep (r ++ [x]) = Lib.joinTail sep r ++ sep ++ x := fun r x => by
  unfold Lib.joinTail
  rw [List.map_append, List.flatten_append]
  simp
theorem join_app (sep x : List UInt8) : ∀ {r : List (List UInt8)}, r ≠ [] → Lib.join (r ++ [x]) sep = Lib.join r sep ++ sep ++ x
  | [], h => absurd rfl h
  | a :: r, _ => by
    rw [List.cons_append, Lib.join_cons, Lib.join_cons, joinTail_app]
    simp [List.append_assoc]
theorem preT_join {ts : List Term} : ∀ {k : Nat}, k ≤ ts.length → preT ts k = Lib.join ((ts.take k).map termT) [43]
  | 0, _ => by simp [preT, Lib.join_nil]
  | k + 1, h => by
    rw [stm_take (by omega), List.map_append, List.map_singleton]
    simp only [preT]
    by_cases hk : 0 < k
    · rw [if_pos hk, join_app _ _ (by intro e; have h9 := congrArg List.length e; rw [List.length_map, List.length_take_of_le (by omega)] at h9; simp only [List.length_nil] at h9; omega), ← preT_join (k := k) (by omega)]
    · obtain rfl : k = 0 := by omega
      rw [if_neg hk]
      simp [preT, Lib.join_one]
theorem preT_end (ts : List Term) (h : ¬ ts.length = 0) : preT ts ts.length = textT ts := by
  rw [preT_join (Nat.le_refl _), List.take_length]
  unfold textT
  rw [if_neg h]
theorem termT_len {ts : List Term} (hw : Wfs ts) (hf : ∀ i, i < ts.length → 0 ≤ (tm ts i).fac) {i : Nat} (hi : i < ts.length) : (termT (tm ts i)).length ≤ 200 := by
  have hm := hw (tm ts i) (by rw [← stm_eq hi]; exact List.getElem_mem hi)
  have h1 := decL_len (hf i hi) hm.fac.2
  have h2 := nameT_len hm.mono.bd
  unfold termT
  simp only [List.length_append, List.length_singleton]
  omega
theorem preT_len {ts : List Term} (hw : Wfs ts) (hf : ∀ i, i < ts.length → 0 ≤ (tm ts i).fac) : ∀ {k : Nat}, k ≤ ts.length → (preT ts k).length ≤ 201 * k
  | 0, _ => by simp [preT]
  | k + 1, h => by
    have h1 := preT_len hw hf (k := k) (by omega)
    have h2 := termT_len hw hf (i := k) (by omega)
    simp only [preT, List.length_append]
    split
    · simp only [List.length_append, List.length_singleton]; omega
    · omega

end Go.Proofs.YtbjhllmcnfncdaaDoor.G
