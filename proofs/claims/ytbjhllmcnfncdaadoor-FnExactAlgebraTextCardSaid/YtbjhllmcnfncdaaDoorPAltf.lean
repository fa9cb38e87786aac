/- A part of the walk of one law: what the functions compute. No condition. -/
import Derived.Test.YtbjhllmcnfncdaaDoorRows
import Derived.Test.YtbjhllmcnfncdaaDoorProg
import Derived.WalkKit
import Derived.KernelRfl
import Derived.JoinedOf
import Derived.Maps.AppendAt
import Derived.Still
import Derived.ProofKit
import Derived.OpenShut
import Derived.StillTail
import Derived.Deep.Upon
import Derived.WalkSpells
import Derived.Maps.Range
import Derived.Laws.Concat
import Derived.Laws.IdiomStrings
import Derived.Laws.Strings
import Derived.Lib.ItoaNum
import Derived.Lib.Join
import Derived.Lib.LaidTab
import Derived.DeepKeys4
import Derived.Shelf.Strings.Builder1
import Derived.Shelf.Strings.Builder2
import Derived.Shelf.Strings.OnBuilder
import Derived.Shelf.Strings.BuilderF
import Derived.Shelf.Strings.BuilderK
import Derived.Shelf.Strconv.Itoa0
import Derived.Shelf.Strconv.Itoa1
import Derived.Shelf.LaysM
import Derived.Shelf.Strconv.Itoa2
import Derived.Shelf.Strconv.Itoa3
import Derived.Shelf.Strconv.Itoa4
import Derived.Lib.AppendIntMem
import Derived.Test.YtbjhllmcnfncdaaDoorCards
import Derived.Test.YtbjhllmcnfncdaaDoorTie
import Derived.LaidMore
import Derived.Stop.Joined
import Derived.Stop.LaidErr
import Derived.SevenTiedAt
import Derived.MakeChecks
import Derived.ChangeOld
import Derived.Below
import Derived.SizedLaws
import Derived.Test.YtbjhllmcnfncdaaDoorPAlte
set_option linter.unusedVariables false
set_option linter.unusedSimpArgs false
namespace Go.Proofs.YtbjhllmcnfncdaaDoor.G
open Go Go.RowKit
namespace Xo
theorem u2 : Tryd.prog.underlying 2 = some (TypeDesc.int .i64) := by kernel_rfl
theorem u22 : Tryd.prog.underlying 22 = some (TypeDesc.slice 2) := by kernel_rfl
theorem u30 : Tryd.prog.underlying 30 = some (TypeDesc.slice 66) := by kernel_rfl
theorem u32 : Tryd.prog.underlying 32 = some (TypeDesc.struct #[{ name := "Terms", type := 30, offset := 0, embedded := false, tag := "", pkgPath := "", byteOffset := 0 }]) := by kernel_rfl
theorem u42 : Tryd.prog.underlying 42 = some (TypeDesc.slice 32) := by kernel_rfl
theorem u44 : Tryd.prog.underlying 44 = some (TypeDesc.struct #[{ name := "Degrees", type := 22, offset := 0, embedded := false, tag := "", pkgPath := "", byteOffset := 0 }, { name := "Images", type := 42, offset := 1, embedded := false, tag := "", pkgPath := "", byteOffset := 24 }]) := by kernel_rfl
theorem u5 : Tryd.prog.underlying 5 = some (TypeDesc.int .u8) := by kernel_rfl
theorem u64 : Tryd.prog.underlying 64 = some (TypeDesc.array 8 5) := by kernel_rfl
theorem u66 : Tryd.prog.underlying 66 = some (TypeDesc.struct #[{ name := "Monomial", type := 64, offset := 0, embedded := false, tag := "", pkgPath := "", byteOffset := 0 }, { name := "Factor", type := 2, offset := 8, embedded := false, tag := "", pkgPath := "", byteOffset := 8 }]) := by kernel_rfl
theorem sz2 : Size Tryd.prog 2 1 := by unfold Size; kernel_rfl
theorem sz22 : Size Tryd.prog 22 1 := by unfold Size; kernel_rfl
theorem sz30 : Size Tryd.prog 30 1 := by unfold Size; kernel_rfl
theorem sz32 : Size Tryd.prog 32 1 := by unfold Size; kernel_rfl
theorem sz42 : Size Tryd.prog 42 1 := by unfold Size; kernel_rfl
theorem sz5 : Size Tryd.prog 5 1 := by unfold Size; kernel_rfl
theorem sz64 : Size Tryd.prog 64 8 := by unfold Size; kernel_rfl
theorem sz66 : Size Tryd.prog 66 9 := by unfold Size; kernel_rfl
theorem bz32 : ∀ w, (Instr.build 32 #[]).run Tryd.prog w = .ok (.agg [.slice none 0 0].toArray) w := fun _ => by kernel_rfl
theorem ze32 : Zero Tryd.prog 32 [.slice none 0 0] := by unfold Zero; kernel_rfl
theorem ze64 : Zero Tryd.prog 64 [.int .u8 0, .int .u8 0, .int .u8 0, .int .u8 0, .int .u8 0, .int .u8 0, .int .u8 0, .int .u8 0] := by unfold Zero; kernel_rfl
theorem pl2 : Plain Tryd.prog 2 := ⟨_, u2, rfl⟩
theorem pl22 : Plain Tryd.prog 22 := ⟨_, u22, rfl⟩
theorem pl30 : Plain Tryd.prog 30 := ⟨_, u30, rfl⟩
theorem pl42 : Plain Tryd.prog 42 := ⟨_, u42, rfl⟩
theorem pl5 : Plain Tryd.prog 5 := ⟨_, u5, rfl⟩
theorem ag32 : Agg Tryd.prog 32 1 := ⟨_, u32, rfl, by kernel_rfl⟩
theorem ag64 : Agg Tryd.prog 64 8 := ⟨_, u64, rfl, by kernel_rfl⟩
theorem fn65 : Fn Tryd.prog 65 := ⟨_, Tryd.func65, by kernel_rfl, rfl⟩
theorem fn66 : Fn Tryd.prog 66 := ⟨_, Tryd.func66, by kernel_rfl, rfl⟩
theorem fn67 : Fn Tryd.prog 67 := ⟨_, Tryd.func67, by kernel_rfl, rfl⟩
theorem fn68 : Fn Tryd.prog 68 := ⟨_, Tryd.func68, by kernel_rfl, rfl⟩
theorem fn69 : Fn Tryd.prog 69 := ⟨_, Tryd.func69, by kernel_rfl, rfl⟩
theorem foll0 : Tryd.prog.follows .mixedOrders = true := by kernel_rfl
end Xo
open Xo
def frK (p : Pw) (k j : Nat) : Pw := (List.range 8).map fun t => if t < j ∧ k ≤ t then 0 else p.getD t 0
def bkK (p : Pw) (k j : Nat) : Pw := (List.range 8).map fun t => if t < j ∧ t ≤ k then 0 else p.getD t 0
@[simp] theorem frK_len (p : Pw) (k j : Nat) : (frK p k j).length = 8 := by simp [frK]
@[simp] theorem bkK_len (p : Pw) (k j : Nat) : (bkK p k j).length = 8 := by simp [bkK]
theorem frK_get {p : Pw} {k j t : Nat} (h : t < 8) : (frK p k j).getD t 0 = if t < j ∧ k ≤ t then 0 else p.getD t 0 := by simp [frK, List.getD_eq_getElem?_getD, h]
theorem bkK_get {p : Pw} {k j t : Nat} (h : t < 8) : (bkK p k j).getD t 0 = if t < j ∧ t ≤ k then 0 else p.getD t 0 := by simp [bkK, List.getD_eq_getElem?_getD, h]
theorem frK_zero {p : Pw} (hp : p.length = 8) (k : Nat) : frK p k 0 = p := list8 (by simp) hp fun t ht => by rw [frK_get ht, if_neg (by omega)]
theorem bkK_zero {p : Pw} (hp : p.length = 8) (k : Nat) : bkK p k 0 = p := list8 (by simp) hp fun t ht => by rw [bkK_get ht, if_neg (by omega)]
theorem frK_end (p : Pw) (k : Nat) : frK p k 8 = aheadP p k := list8 (by simp) (by simp) fun t ht => by
  rw [frK_get ht, aheadP_get ht]
  by_cases h : t < k
  · rw [if_neg (by omega), if_pos h]
  · rw [if_pos (by omega), if_neg h]
theorem bkK_end (p : Pw) (k : Nat) : bkK p k 8 = behP p (k + 1) := list8 (by simp) (by simp) fun t ht => by
  rw [bkK_get ht, behP_get ht]
  by_cases h : t < k + 1
  · rw [if_pos (by omega), if_pos h]
  · rw [if_neg (by omega), if_neg h]
theorem frK_yes {p : Pw} {k j : Nat} (hj : j < 8) (h : k ≤ j) : (frK p k j).set j 0 = frK p k (j + 1) := list8 (by simp) (by simp) fun t ht => by
  rw [getD_set8, frK_get ht, frK_get ht]
  by_cases e : j = t
  · subst e
    rw [if_pos ⟨rfl, by simpa using hj⟩, if_pos (by omega)]
  · rw [if_neg fun h => e h.1]
    by_cases h2 : t < j ∧ k ≤ t
    · rw [if_pos h2, if_pos (by omega)]
    · rw [if_neg h2, if_neg (by omega)]
theorem frK_no {p : Pw} {k j : Nat} (h : ¬ k ≤ j) : frK p k j = frK p k (j + 1) := list8 (by simp) (by simp) fun t ht => by
  rw [frK_get ht, frK_get ht, if_neg (by omega), if_neg (by omega)]
theorem bkK_yes {p : Pw} {k j : Nat} (hj : j < 8) (h : j ≤ k) : (bkK p k j).set j 0 = bkK p k (j + 1) := list8 (by simp) (by simp) fun t ht => by
  rw [getD_set8, bkK_get ht, bkK_get ht]
  by_cases e : j = t
  · subst e
    rw [if_pos ⟨rfl, by simpa using hj⟩, if_pos (by omega)]
  · rw [if_neg fun h => e h.1]
    by_cases h2 : t < j ∧ t ≤ k
    · rw [if_pos h2, if_pos (by omega)]
    · rw [if_neg h2, if_neg (by omega)]
theorem bkK_no {p : Pw} {k j : Nat} (h : ¬ j ≤ k) : bkK p k j = bkK p k (j + 1) := list8 (by simp) (by simp) fun t ht => by
  rw [bkK_get ht, bkK_get ht]
  by_cases h2 : t < j ∧ t ≤ k
  · rw [if_pos h2, if_pos (by omega)]
  · rw [if_neg h2, if_neg (by omega)]
theorem aheadP_pok {M : Int} {p : Pw} (h : Pok M p) (k : Nat) : Pok M (aheadP p k) := ⟨by simp, fun j => by
  have := h.bd j
  rcases Nat.lt_or_ge j 8 with hj | hj
  · rw [aheadP_get hj]
    split <;> omega
  · rw [getD_ge (by simp; omega)]
    omega⟩
theorem Pok.mn {M : Int} {p : Pw} (h : Pok M p) (hM : M ≤ 255) : Mono p := ⟨h.len, (h.mono hM).bd⟩
theorem wsum_ahead {ds p : Pw} {k : Nat} : ∀ {n : Nat}, n ≤ 8 → wsum ds (aheadP p k) n = wsum ds p (min n k)
  | 0, _ => by simp [wsum]
  | n + 1, h => by
    simp only [wsum]
    rw [wsum_ahead (by omega), aheadP_get (by omega)]
    by_cases hk : n < k
    · rw [if_pos hk, Nat.min_eq_left (by omega), Nat.min_eq_left (by omega)]
      rfl
    · rw [if_neg hk, Nat.min_eq_right (by omega), Nat.min_eq_right (by omega), Int.mul_zero, Int.add_zero]
theorem dsg_wsum {ds p : Pw} (hd : ∀ j, 0 ≤ ds.getD j 0 ∧ ds.getD j 0 ≤ 12) (hp : ∀ j, 0 ≤ p.getD j 0) : ∀ {k : Nat}, k ≤ ds.length → dsg ds p k = if wsum ds p k % 2 = 1 then -1 else 1
  | 0, _ => by simp [dsg, wsum]
  | k + 1, h => by
    have ih := dsg_wsum hd hp (k := k) (by omega)
    have e1 := Int.tmod_eq_emod_of_nonneg (b := 2) (hd k).1
    have e2 := Int.tmod_eq_emod_of_nonneg (b := 2) (hp k)
    have em := Int.mul_emod (ds.getD k 0) (p.getD k 0) 2
    have e : wsum ds p (k + 1) = wsum ds p k + ds.getD k 0 * p.getD k 0 := rfl
    by_cases hc : (ds.getD k 0).tmod 2 = 1 ∧ (p.getD k 0).tmod 2 = 1
    · rw [show ds.getD k 0 % 2 = 1 by omega, show p.getD k 0 % 2 = 1 by omega] at em
      rw [← dsg_yes (by omega) hc.1 hc.2, ih]
      by_cases c : wsum ds p k % 2 = 1
      · rw [if_pos c, if_neg (by omega)]; rfl
      · rw [if_neg c, if_pos (by omega)]; rfl
    · have em2 : (ds.getD k 0 * p.getD k 0) % 2 = 0 := by
        rcases (show ds.getD k 0 % 2 = 0 ∨ ds.getD k 0 % 2 = 1 by omega) with a | a <;> rcases (show p.getD k 0 % 2 = 0 ∨ p.getD k 0 % 2 = 1 by omega) with b | b <;> rw [a, b] at em <;> omega
      rw [← dsg_no (fun h => hc h.2), ih]
      by_cases c : wsum ds p k % 2 = 1
      · rw [if_pos c, if_pos (by omega)]
      · rw [if_neg c, if_neg (by omega)]
theorem wsum_nn {ds p : Pw} (hd : ∀ j, 0 ≤ ds.getD j 0 ∧ ds.getD j 0 ≤ 12) (hp : ∀ j, 0 ≤ p.getD j 0) : ∀ k, 0 ≤ wsum ds p k
  | 0 => by simp [wsum]
  | k + 1 => by
    have h1 := wsum_nn hd hp k
    have h2 := Int.mul_nonneg (hd k).1 (hp k)
    simp only [wsum]
    omega
theorem sg_neg {ds p : Pw} {k : Nat} (hn : ds.length ≤ 8) (hd : ∀ j, 0 ≤ ds.getD j 0 ∧ ds.getD j 0 ≤ 12) (hp : ∀ j, 0 ≤ p.getD j 0) (hk : k < ds.length) (h : (wsum ds (aheadP p k) ds.length).tmod 2 ≠ 0) : dsg ds p k = -1 := by
  rw [wsum_ahead hn, Nat.min_eq_right (by omega)] at h
  rw [dsg_wsum hd hp (by omega), if_pos]
  have := Int.tmod_eq_emod_of_nonneg (b := 2) (show 0 ≤ wsum ds p k from wsum_nn hd hp k)
  omega
theorem sg_pos {ds p : Pw} {k : Nat} (hn : ds.length ≤ 8) (hd : ∀ j, 0 ≤ ds.getD j 0 ∧ ds.getD j 0 ≤ 12) (hp : ∀ j, 0 ≤ p.getD j 0) (hk : k < ds.length) (h : ¬ (wsum ds (aheadP p k) ds.length).tmod 2 ≠ 0) : dsg ds p k = 1 := by
  rw [wsum_ahead hn, Nat.min_eq_right (by omega)] at h
  rw [dsg_wsum hd hp (by omega), if_neg]
  have := Int.tmod_eq_emod_of_nonneg (b := 2) (show 0 ≤ wsum ds p k from wsum_nn hd hp k)
  omega
theorem addS_one (p : Pw) : addS [] p 1 = [(p, 1)] := by
  simp only [addS]
  rw [fld_id (by omega), if_neg (by omega)]
theorem one_wf {p : Pw} (h : Mono p) : Wfs (ofS (addS [] p 1)) := by
  rw [addS_one]
  exact fun t ht => by
    simp [ofS] at ht
    subst ht
    exact ⟨⟨h.len, h.bd⟩, by show -9223372036854775808 ≤ (1 : Int) ∧ (1 : Int) ≤ 9223372036854775807; omega⟩
theorem one_g {M : Int} {p : Pw} (h : Pok M p) : Gok M (toS (ofS (addS [] p 1))) := by
  rw [toS_ofS, addS_one]
  exact (Sok.one h (by omega)).g
theorem one_kex {ds p : Pw} (h : Ex ds p) : KEx ds (toS (ofS (addS [] p 1))) := by
  rw [toS_ofS, addS_one]
  intro x hx
  simp at hx
  rw [hx]
  exact h
theorem one_len (p : Pw) : (ofS (addS [] p 1)).length = 1 := by rw [addS_one]; rfl
theorem Ex.le {ds p q : Pw} (h : Ex ds p) (hq : ∀ j, 0 ≤ q.getD j 0 ∧ q.getD j 0 ≤ p.getD j 0) : Ex ds q :=
  ⟨fun i hi => by have := h.out i hi; have := hq i; omega, fun i hi ho => by have := h.odd i hi ho; have := hq i; omega⟩
theorem leftP_ex {ds p : Pw} {M : Int} (hp : Pok M p) (h : Ex ds p) {k : Nat} (hk : 0 < p.getD k 0) : Ex ds (leftP p k) := h.le fun j => by
  have b := hp.bd j
  have c := hp.bd k
  unfold leftP
  rw [getD_set8]
  split
  · rename_i e
    rw [← e.1]
    omega
  · rcases Nat.lt_or_ge j 8 with hj | hj
    · rw [aheadP_get hj]
      split <;> omega
    · rw [getD_ge (by simp; omega)]
      omega
theorem behP_ex {ds p : Pw} {M : Int} (hp : Pok M p) (h : Ex ds p) (k : Nat) : Ex ds (behP p k) := h.le fun j => by
  have b := hp.bd j
  rcases Nat.lt_or_ge j 8 with hj | hj
  · rw [behP_get hj]
    split <;> omega
  · rw [getD_ge (by simp; omega)]
    omega
theorem dT_len (ds : Pw) (im : Sm) (p : Pw) (k : Nat) : (dT ds im p k).length ≤ im.length := by
  unfold dT
  have h1 := times_len ds (timesS ds [(leftP p k, 1)] im) [(behP p (k + 1), 1)]
  have h2 := times_len ds [(leftP p k, 1)] im
  simp only [List.length_singleton] at h1 h2
  omega
theorem dP_len {ds : Pw} {fs : List (List Term)} {x : Pw × Int} {k : Nat} (hL : ∀ i, i < fs.length → (fm fs i).length ≤ 10000) (hk : 0 < x.1.getD k 0 → k < fs.length) : (dP ds fs x k).length ≤ 10000 := by
  unfold dP
  split
  · rename_i h
    have h1 := dT_len ds (toS (fm fs k)) x.1 k
    have h2 := hL k (hk h)
    rw [toS_len] at h1
    unfold scl
    rw [List.length_map]
    omega
  · simp
theorem dLk_len {ds : Pw} {fs : List (List Term)} {x : Pw × Int} (hL : ∀ i, i < fs.length → (fm fs i).length ≤ 10000) (ho : ∀ k, 0 < x.1.getD k 0 → k < fs.length) : ∀ k, (dLk ds fs x k).length ≤ k * 10000
  | 0 => by simp [dLk]
  | k + 1 => by
    have h1 := dLk_len (ds := ds) hL ho k
    have h2 := dP_len (ds := ds) hL (ho k)
    rw [dLk_succ, List.length_append]
    omega
theorem dAll_len {ds : Pw} {fs : List (List Term)} (hL : ∀ i, i < fs.length → (fm fs i).length ≤ 10000) : ∀ {s : Sm}, Occ fs.length s → (dAll ds fs s).length ≤ s.length * 80000
  | [], _ => by simp [dAll]
  | x :: s, ho => by
    have h1 := dAll_len (ds := ds) hL (s := s) fun y hy => ho y (by simp [hy])
    have h2 := dLk_len (ds := ds) hL (ho x (by simp)) 8
    unfold dAll at h1 ⊢
    rw [List.flatMap_cons, List.length_append, List.length_cons]
    omega
theorem dAll_take {ds : Pw} {fs : List (List Term)} {f : List Term} {i : Nat} (hi : i < f.length) : dAll ds fs (toS (f.take (i + 1))) = dAll ds fs (toS (f.take i)) ++ dLk ds fs ((tm f i).mono, (tm f i).fac) 8 := by
  rw [toS_take hi]
  unfold dAll
  rw [List.flatMap_append]
  simp
theorem dLk_same {ds : Pw} {fs : List (List Term)} {x : Pw × Int} {n : Nat} (h : ∀ k, n ≤ k → x.1.getD k 0 = 0) : ∀ m, dLk ds fs x (n + m) = dLk ds fs x n
  | 0 => rfl
  | m + 1 => by
    rw [← Nat.add_assoc, dLk_succ, dLk_same h m]
    unfold dP
    rw [if_neg (by rw [h _ (by omega)]; omega), List.append_nil]
theorem dLk_8 {ds : Pw} {fs : List (List Term)} {x : Pw × Int} (hn : ds.length ≤ 8) (h : Ex ds x.1) : dLk ds fs x ds.length = dLk ds fs x 8 := by
  rw [← dLk_same (ds := ds) (fs := fs) (x := x) (n := ds.length) h.out (8 - ds.length), Nat.add_sub_cancel' hn]
theorem Ex.occ {ds : Pw} {s : Sm} {n : Nat} (h : KEx ds s) (hl : n = ds.length) : Occ n s := fun x hx i hi => by
  have := (h x hx).out i
  omega
theorem toS_tk (ts : List Term) (k : Nat) : toS (ts.take k) = (toS ts).take k := by simp [toS, List.map_take]
theorem Sok.tk {M : Int} {ts : List Term} (h : Sok M (toS ts)) (k : Nat) : Sok M (toS (ts.take k)) := by
  rw [toS_tk]
  exact ⟨h.srt.sublist (List.take_sublist _ _), fun x hx => h.key x (List.mem_of_mem_take hx), fun x hx => h.val x (List.mem_of_mem_take hx)⟩
theorem Occ.tk {n : Nat} {ts : List Term} (h : Occ n (toS ts)) (k : Nat) : Occ n (toS (ts.take k)) := by
  rw [toS_tk]
  exact fun x hx => h x (List.mem_of_mem_take hx)
theorem d1_sok {ad : Pw} {af : List (List Term)} {f : List Term} {Mi Ms : Int} (hf : Fok Mi af) (hs : Sok Ms (toS f)) (ho : Occ af.length (toS f)) (i : Nat) : Sok (Ms + Mi + Ms) (acc [] (dAll ad af (toS (f.take i)))) := Sok.nil.acc (dAll_pok (hs.tk i) hf (ho.tk i))
theorem d2_sok {ad : Pw} {af : List (List Term)} {f : List Term} {Mi Ms : Int} (hf : Fok Mi af) (hs : Sok Ms (toS f)) (ho : Occ af.length (toS f)) {i : Nat} (hi : i < f.length) (k : Nat) : Sok (Ms + Mi + Ms) (acc [] (dAll ad af (toS (f.take i)) ++ dLk ad af ((tm f i).mono, (tm f i).fac) k)) := Sok.nil.acc fun z hz => by
  rcases List.mem_append.1 hz with h | h
  · exact dAll_pok (hs.tk i) hf (ho.tk i) z h
  · exact dLk_pok (hs.key _ (toS_at hi)) hf (ho _ (toS_at hi)) z h
theorem d2_len {ad : Pw} {af : List (List Term)} {f : List Term} (hL : ∀ i, i < af.length → (fm af i).length ≤ 10000) (ho : Occ af.length (toS f)) (hlf : f.length ≤ 10000) {i k : Nat} (hi : i < f.length) (hk : k ≤ 8) : (acc [] (dAll ad af (toS (f.take i)) ++ dLk ad af ((tm f i).mono, (tm f i).fac) k)).length ≤ 900000000 := by
  have h1 := acc_len (dAll ad af (toS (f.take i)) ++ dLk ad af ((tm f i).mono, (tm f i).fac) k) []
  have h2 := dAll_len (ds := ad) hL (ho.tk i)
  have h3 := dLk_len (ds := ad) hL (ho _ (toS_at hi)) k
  rw [toS_len, List.length_take_of_le (by omega)] at h2
  rw [List.length_append, List.length_nil] at h1
  omega
theorem fac_neg {ds p : Pw} {k : Nat} {x : Int} (h : dsg ds p k = -1) : fld (dsg ds p k * x * p.getD k 0) = fld (0 - x * p.getD k 0) := by rw [h]; simp only [Int.neg_mul, Int.one_mul, Int.zero_sub]
theorem fac_pos {ds p : Pw} {k : Nat} {x : Int} (h : dsg ds p k = 1) : fld (dsg ds p k * x * p.getD k 0) = fld (x * p.getD k 0) := by rw [h, Int.one_mul]
set_option maxHeartbeats 8000000 in
set_option maxRecDepth 10000 in
theorem l02D_c {B : World} {H0 H : HP} {L : List SA} {w : World} {qad qaf : Option Addr} {cad caf : Nat} {ad : List Int} {af : List (List Term)} {qf : Option Addr} {cf : Nat} {f : List Term} {Mi Ms : Int} (had : Ints H qad ad) (haf : Forms H qaf af) (hf : Terms H qf f) (hn : ad.length ≤ 8) (hd : ∀ j, 0 ≤ ad.getD j 0 ∧ ad.getD j 0 ≤ 12) (hf9 : Fok Mi af) (hl : af.length = ad.length) (hk9 : ∀ i, i < af.length → KEx ad (toS (fm af i))) (hs : Sok Ms (toS f)) (hfk : KEx ad (toS f)) (hM : 0 ≤ Mi ∧ 0 ≤ Ms ∧ Ms + Mi + Ms ≤ 255) (hL : ∀ i, i < af.length → (fm af i).length ≤ 10000) (hlf : f.length ≤ 10000) (hH : Hp B H0 H L w) :
    Calls Tryd.prog 44 [.agg [.slice qad ad.length cad, .slice qaf af.length caf].toArray, .agg [.slice qf f.length cf].toArray].toArray w fun e w' => ∃ q c, e = .returned (.agg [.slice q (ofS (dS ad af (toS f))).length c].toArray) ∧ Hp B H0 H (own 66 9 q (ofS (dS ad af (toS f))).length c (tsC (ofS (dS ad af (toS f)))) :: L) w' := by
  refine CJ.enter Tryd.func44 rfl 103 rfl rfl [(0, .agg [.slice qad ad.length cad, .slice qaf af.length caf].toArray), (1, .agg [.slice qf f.length cf].toArray)] rfl hH ?_
  clear hH
  have hoc := Ex.occ hfk hl
  refine CJ.seq fun _ hK1 _ => ?_
  refine CJ.region ?_
  refine J.box rfl rfl rfl fun g2 => ?_
  refine J.box rfl rfl rfl fun g3 => ?_
  refine J.alloc ze32 rfl fun g4 => ?_
  refine J.nil ?_
  refine EJ.thenN (hK1 ?_)
  refine CJ.seq fun _ hK2 _ => ?_
  refine CJ.region ?_
  refine J.own0 66 9 ?_
  refine J.p (PR.buildZ bz32) rfl ?_
  refine J.alloc ze32 rfl fun g5 => ?_
  refine J.storeAll rfl rfl (by first | exact bytesC_one _ | exact intsC_one _ | exact Term.c_one _ | simp [Value.oneCell']) (by simpa [*] using sz32) (by simp [*]) At.z ?_
  refine J.nil ?_
  refine EJ.thenN (hK2 ?_)
  refine CJ.seq fun _ hK3 _ => ?_
  refine CJ.seq fun _ hK4 _ => ?_
  refine CJ.region ?_
  refine J.p (PR.assign rfl) rfl ?_
  refine J.nil ?_
  refine EJ.thenN (hK4 ?_)
  refine CJ.block ?_
  refine CJ.loopU (σ := Option Addr × Nat × Nat) (fun ⟨q, c, i⟩ => [(6, .int .i64 (i : Int))]) (fun ⟨q, c, i⟩ => H) (fun ⟨q, c, i⟩ => obj g5 (.cells [.slice q (ofS (acc [] (dAll ad af (toS (f.take i))))).length c].toArray 32 (0, 0)) :: own 66 9 q (ofS (acc [] (dAll ad af (toS (f.take i))))).length c (tsC (ofS (acc [] (dAll ad af (toS (f.take i)))))) :: obj g4 (.cells [.slice none 0 0].toArray 32 (0, 0)) :: obj g3 (.cells [.slice qf f.length cf].toArray 32 (0, 0)) :: obj g2 (.cells [.slice qad ad.length cad, .slice qaf af.length caf].toArray 44 (0, 0)) :: L) (fun ⟨q, c, i⟩ => i ≤ f.length) (fun ⟨q, c, i⟩ => f.length - i) (none, 0, 0) (by show 0 ≤ f.length; omega) ⟨rfl, trivial⟩ rfl rfl ?_
  rintro ⟨q, c, i⟩ hI _ hAg0
  have hi := hI
  have wfO := (d1_sok (ad := ad) hf9 hs hoc i).wf (by omega)
  refine CJ.seq fun _ hK5 _ => ?_
  refine CJ.seq fun _ hK6 _ => ?_
  refine CJ.region ?_
  refine J.p (PR.move rfl) rfl ?_
  refine J.p (PR.fldA u32 rfl sz30 rfl) rfl ?_
  refine J.p (PR.load rfl (.s (.s (.s .z))) rfl pl30) rfl ?_
  refine J.p (PR.lenSlice u30 rfl rfl) rfl ?_
  refine J.p (PR.lss rfl rfl) rfl ?_
  refine J.nil ?_
  refine EJ.thenN (hK6 ?_)
  refine CJ.condD rfl (fun h20 => ?_) (fun h20 => ?_)
  ·
    have hxi := toS_at (ts := f) (k := i) (by omega)
    have hxp := hs.key _ hxi
    have hxv := hs.val _ hxi
    have hxe := hfk _ hxi
    simp only at hxp hxv hxe
    have hx8 := hxp.len
    have hxn : ∀ j, 0 ≤ (tm f i).mono.getD j 0 := fun j => (hxp.bd j).1
    refine CJ.skip ?_
    refine EJ.thenN (hK5 ?_)
    refine CJ.seq fun _ hK7 _ => ?_
    refine CJ.block ?_
    refine CJ.seq fun _ hK8 _ => ?_
    refine CJ.region ?_
    refine J.p (PR.fldA u32 rfl sz30 rfl) rfl ?_
    refine J.p (PR.load rfl (.s (.s (.s .z))) rfl pl30) rfl ?_
    refine J.p (PR.move rfl) rfl ?_
    refine J.p (PR.idx u30 sz66 rfl rfl rfl (by omega) hf.sm) rfl ?_
    refine J.p (PR.fldP u66 rfl sz64 rfl (hf.sm (i := i) (by omega))) rfl ?_
    refine J.p (PR.loadHagg rfl (hf.mono (by omega)) (hf.sm (i := i) (by omega)) (by rw [bytesC_length, (hf.wf _ (by omega)).mono.len]; exact ag64)) rfl ?_
    refine J.alloc ze64 rfl fun g7 => ?_
    refine J.storeAll rfl rfl (by first | exact bytesC_one _ | exact intsC_one _ | exact Term.c_one _ | simp [Value.oneCell']) (by simpa [*] using sz64) (by simp [*]) At.z ?_
    refine J.nil ?_
    refine EJ.thenN (hK8 ?_)
    refine CJ.seq fun _ hK9 _ => ?_
    refine CJ.region ?_
    refine J.p (PR.assign rfl) rfl ?_
    refine J.nil ?_
    refine EJ.thenN (hK9 ?_)
    refine CJ.block ?_
    refine CJ.loopU (σ := Option Addr × Nat × Nat) (fun ⟨q1, c1, k⟩ => [(8, .int .i64 (k : Int))]) (fun ⟨q1, c1, k⟩ => H) (fun ⟨q1, c1, k⟩ => obj g7 (.cells (bytesC ((tm f i).mono)).toArray 64 (0, 0)) :: obj g5 (.cells [.slice q1 (ofS (acc [] (dAll ad af (toS (f.take i)) ++ dLk ad af ((tm f i).mono, (tm f i).fac) k))).length c1].toArray 32 (0, 0)) :: own 66 9 q1 (ofS (acc [] (dAll ad af (toS (f.take i)) ++ dLk ad af ((tm f i).mono, (tm f i).fac) k))).length c1 (tsC (ofS (acc [] (dAll ad af (toS (f.take i)) ++ dLk ad af ((tm f i).mono, (tm f i).fac) k)))) :: obj g4 (.cells [.slice none 0 0].toArray 32 (0, 0)) :: obj g3 (.cells [.slice qf f.length cf].toArray 32 (0, 0)) :: obj g2 (.cells [.slice qad ad.length cad, .slice qaf af.length caf].toArray 44 (0, 0)) :: L) (fun ⟨q1, c1, k⟩ => k ≤ ad.length) (fun ⟨q1, c1, k⟩ => ad.length - k) (q, c, 0) (by show 0 ≤ ad.length; omega) ⟨rfl, trivial⟩ rfl (by simp only [dLk, List.range_zero, List.flatMap_nil, List.append_nil]) ?_
    rintro ⟨q1, c1, k⟩ hkI _ hAg1
    have hk := hkI
    have wfO := (d2_sok (ad := ad) hf9 hs hoc (i := i) (by omega) k).wf (by omega)
    refine CJ.seq fun _ hK10 _ => ?_
    refine CJ.seq fun _ hK11 _ => ?_
    refine CJ.region ?_
    refine J.p (PR.move rfl) rfl ?_
    refine J.p (PR.fldA u44 rfl sz22 rfl) rfl ?_
    refine J.p (PR.load rfl (.s (.s (.s (.s (.s .z))))) rfl pl22) rfl ?_
    refine J.p (PR.lenSlice u22 rfl rfl) rfl ?_
    refine J.p (PR.lss rfl rfl) rfl ?_
    refine J.nil ?_
    refine EJ.thenN (hK11 ?_)
    refine CJ.condD rfl (fun h33 => ?_) (fun h33 => ?_)
    ·
      have hkl : k < af.length := by omega
      have hpk := hxp.bd k
      refine CJ.skip ?_
      refine EJ.thenN (hK10 ?_)
      refine CJ.seq fun _ hK12 _ => ?_
      refine CJ.block ?_
      refine CJ.seq fun _ hK13 _ => ?_
      refine CJ.seq fun _ hK14 _ => ?_
      refine CJ.region ?_
      refine J.p (PR.move rfl) rfl ?_
      refine J.p (PR.idxA1 u64 sz5 rfl rfl rfl (by omega)) rfl ?_
      refine J.p (PR.load rfl At.z (bytesC_get (by omega)) pl5) rfl ?_
      refine J.p (PR.eql rfl rfl) rfl ?_
      refine J.nil ?_
      refine EJ.thenN (hK14 ?_)
      refine CJ.condD rfl (fun h39 => ?_) (fun h39 => ?_)
      ·
        refine CJ.exit ?_
        refine EJ.thenE ?_
        refine EJ.inE ?_
        refine EJ.thenN (hK12 ?_)
        refine CJ.region ?_
        refine J.p (PR.move rfl) rfl ?_
        refine J.p (PR.add rfl rfl (by first | exact nw _ (by omega) | rfl)) rfl ?_
        refine J.p (PR.assign rfl) rfl ?_
        refine J.nil ?_
        refine EJ.thenN ?_
        exact hAg1 (q1, c1, k + 1) (by show k + 1 ≤ ad.length; omega) (by show ad.length - (k + 1) < ad.length - k; omega) 13 rfl rfl ⟨rfl, trivial⟩ rfl (by simp only [acc_dN (ds := ad) (fs := af) (x := ((tm f i).mono, (tm f i).fac)) (k := k) (show ¬ 0 < (tm f i).mono.getD k 0 by omega)])
      ·
        have hpos : 0 < (tm f i).mono.getD k 0 := by omega
        have hlp := leftP_pok hxp hpos
        have hfp := aheadP_pok hxp k
        have hbp := behP_pok hxp (k + 1)
        have hlm := hlp.mn (by omega)
        have hfm := hfp.mn (by omega)
        have hbm := hbp.mn (by omega)
        have hle := leftP_ex hxp hxe hpos
        have hbe := behP_ex hxp hxe (k + 1)
        have mb := mul_sb (b := (tm f i).mono.getD k 0) (B := 255) (show -10006 ≤ (tm f i).fac ∧ (tm f i).fac ≤ 10006 by omega) (by omega)
        have gt1 := gtimes (ds := ad) (Sok.one hlp (k := 1) (by omega)).g (hf9 k hkl).1.g
        have gt2 := gtimes (ds := ad) (gt1.g) (Sok.one hbp (k := 1) (by omega)).g
        have l9 := hL k hkl
        have l8 := d2_len (ad := ad) hL hoc hlf (i := i) (k := k) (by omega) (by omega)
        refine CJ.skip ?_
        refine EJ.thenN (hK13 ?_)
        refine CJ.seq fun _ hK15 _ => ?_
        refine CJ.openR (Rs := [_, _, _, _, _, _]) 6 [[], [], [], [], [0, 2, 3], [0, 1, 2, 3, 4]] [[6], [6], [], [], [], []] [[], [], [], [], [2], [3]] rfl rfl (by kernel_rfl) ?_
        apply GJ.st0 1 rfl
        iterate 3 focus (intros; (conv => lhs; simp only [slotsZ, zlAt, vs0, resL, at2, eq_self, Nat.reduceEqDiff, reduceIte, Nat.reduceSub, Nat.reduceAdd, List.cons_append, List.nil_append]); all_goals rfl)
        ·
          intro gh X K zq zc zq2 zc2 zb zv hK
          refine J.p (PR.loadAll rfl At.z (by simpa [*] using ag64)) rfl ?_
          refine J.nilK ?_
          exact hK zq zc zq2 zc2 zb zv
        ·
          intro gh gh' h
          rfl
        apply GJ.st0 2 rfl
        iterate 3 focus (intros; (conv => lhs; simp only [slotsZ, zlAt, vs0, resL, at2, eq_self, Nat.reduceEqDiff, reduceIte, Nat.reduceSub, Nat.reduceAdd, List.cons_append, List.nil_append]); all_goals rfl)
        ·
          intro gh X K zq zc zq2 zc2 zb zv hK
          refine J.p (PR.loadAll rfl At.z (by simpa [*] using ag64)) rfl ?_
          refine J.nilK ?_
          exact hK zq zc zq2 zc2 zb zv
        ·
          intro gh gh' h
          rfl
        apply GJ.st1 3 rfl
        iterate 3 focus (intros; (conv => lhs; simp only [slotsZ, zlAt, vs0, resL, at2, eq_self, Nat.reduceEqDiff, reduceIte, Nat.reduceSub, Nat.reduceAdd, List.cons_append, List.nil_append]); all_goals rfl)
        ·
          intro gh X K zq zc zq2 zc2 zb zv hK
          refine J.alloc ze64 rfl fun g9 => ?_
          refine J.nilK ?_
          exact hK zq zc zq2 zc2 g9 zv
        ·
          intro gh gh' h
          refine ⟨?_, ?_⟩ <;> rfl
        apply GJ.st1 4 rfl
        iterate 3 focus (intros; (conv => lhs; simp only [slotsZ, zlAt, vs0, resL, at2, eq_self, Nat.reduceEqDiff, reduceIte, Nat.reduceSub, Nat.reduceAdd, List.cons_append, List.nil_append]); all_goals rfl)
        ·
          intro gh X K zq zc zq2 zc2 zb zv hK
          refine J.alloc ze64 rfl fun g10 => ?_
          refine J.nilK ?_
          exact hK zq zc zq2 zc2 g10 zv
        ·
          intro gh gh' h
          refine ⟨?_, ?_⟩ <;> rfl
        apply GJ.sn1 5 rfl
        iterate 3 focus (intros; (conv => lhs; simp only [slotsZ, zlAt, vs0, resL, at2, eq_self, Nat.reduceEqDiff, reduceIte, Nat.reduceSub, Nat.reduceAdd, List.cons_append, List.nil_append]); all_goals rfl)
        ·
          intro gh X K hK
          refine J.storeAll rfl rfl (by first | exact bytesC_one _ | exact intsC_one _ | exact Term.c_one _ | simp [Value.oneCell']) (by simpa [*] using sz64) (by simp [*]) At.z ?_
          refine J.nilK ?_
          exact hK
        ·
          intro gh gh' h
          first | simp only [h 2 rfl, h 3 rfl] | rfl
        apply GJ.sn1 6 rfl
        iterate 3 focus (intros; (conv => lhs; simp only [slotsZ, zlAt, vs0, resL, at2, eq_self, Nat.reduceEqDiff, reduceIte, Nat.reduceSub, Nat.reduceAdd, List.cons_append, List.nil_append]); all_goals rfl)
        ·
          intro gh X K hK
          refine J.storeAll rfl rfl (by first | exact bytesC_one _ | exact intsC_one _ | exact Term.c_one _ | simp [Value.oneCell']) (by simpa [*] using sz64) (by simp [*]) At.z ?_
          refine J.nilK ?_
          exact hK
        ·
          intro gh gh' h
          first | simp only [h 2 rfl, h 3 rfl] | rfl
        apply GJ.close [0, 1, 2, 3, 4, 5] [0, 1, 4, 5, 6, 7, 8, 9, 10, 11] foll0 rfl rfl rfl (by rfl)
        iterate 2 focus (intros; (conv => lhs; simp only [slotsZ, zlAt, vs0, resL, at2, eq_self, Nat.reduceEqDiff, reduceIte, Nat.reduceSub, Nat.reduceAdd, List.cons_append, List.nil_append]); all_goals rfl)
        intro gh
        generalize (gh 2).b = g9
        generalize (gh 3).b = g10
        clear gh
        refine EJ.thenN (hK15 ?_)
        refine CJ.seq fun _ hK16 _ => ?_
        refine CJ.seq fun _ hK17 _ => ?_
        refine CJ.region ?_
        refine J.p (PR.assign rfl) rfl ?_
        refine J.nil ?_
        refine EJ.thenN (hK17 ?_)
        refine CJ.block ?_
        refine CJ.loopU (σ := Nat) (fun (j : Nat) => [(11, .int .i64 (j : Int))]) (fun (j : Nat) => H) (fun (j : Nat) => obj g9 (.cells (bytesC (frK (tm f i).mono k j)).toArray 64 (0, 0)) :: obj g10 (.cells (bytesC (bkK (tm f i).mono k j)).toArray 64 (0, 0)) :: obj g7 (.cells (bytesC ((tm f i).mono)).toArray 64 (0, 0)) :: obj g5 (.cells [.slice q1 (ofS (acc [] (dAll ad af (toS (f.take i)) ++ dLk ad af ((tm f i).mono, (tm f i).fac) k))).length c1].toArray 32 (0, 0)) :: own 66 9 q1 (ofS (acc [] (dAll ad af (toS (f.take i)) ++ dLk ad af ((tm f i).mono, (tm f i).fac) k))).length c1 (tsC (ofS (acc [] (dAll ad af (toS (f.take i)) ++ dLk ad af ((tm f i).mono, (tm f i).fac) k)))) :: obj g4 (.cells [.slice none 0 0].toArray 32 (0, 0)) :: obj g3 (.cells [.slice qf f.length cf].toArray 32 (0, 0)) :: obj g2 (.cells [.slice qad ad.length cad, .slice qaf af.length caf].toArray 44 (0, 0)) :: L) (fun (j : Nat) => j ≤ 8) (fun (j : Nat) => 8 - j) 0 (by omega) ⟨rfl, trivial⟩ rfl (by rw [bkK_zero hx8, frK_zero hx8]) ?_
        rintro j hj _ hAg2
        refine CJ.seq fun _ hK18 _ => ?_
        refine CJ.seq fun _ hK19 _ => ?_
        refine CJ.region ?_
        refine J.p (PR.move rfl) rfl ?_
        refine J.p (PR.lss rfl rfl) rfl ?_
        refine J.nil ?_
        refine EJ.thenN (hK19 ?_)
        refine CJ.condD rfl (fun h43 => ?_) (fun h43 => ?_)
        ·
          refine CJ.skip ?_
          refine EJ.thenN (hK18 ?_)
          refine CJ.seq fun _ hK20 _ => ?_
          refine CJ.block ?_
          refine CJ.seq fun _ hK21 _ => ?_
          refine CJ.seq fun _ hK22 _ => ?_
          refine CJ.region ?_
          refine J.p (PR.move rfl) rfl ?_
          refine J.p (PR.move rfl) rfl ?_
          refine J.p (PR.geq rfl rfl) rfl ?_
          refine J.nil ?_
          refine EJ.thenN (hK22 ?_)
          refine CJ.condD rfl (fun h48 => ?_) (fun h48 => ?_)
          ·
            refine CJ.region ?_
            refine J.p (PR.move rfl) rfl ?_
            refine J.p (PR.idxA1 u64 sz5 rfl rfl rfl (by omega)) rfl ?_
            refine J.storeB rfl rfl sz5 (by simp; omega) At.z ?_
            refine J.nil ?_
            refine EJ.thenN (hK21 ?_)
            refine CJ.seq fun _ hK23 _ => ?_
            refine CJ.region ?_
            refine J.p (PR.move rfl) rfl ?_
            refine J.p (PR.move rfl) rfl ?_
            refine J.p (PR.leq rfl rfl) rfl ?_
            refine J.nil ?_
            refine EJ.thenN (hK23 ?_)
            refine CJ.condD rfl (fun h53 => ?_) (fun h53 => ?_)
            ·
              refine CJ.region ?_
              refine J.p (PR.move rfl) rfl ?_
              refine J.p (PR.idxA1 u64 sz5 rfl rfl rfl (by omega)) rfl ?_
              refine J.storeB rfl rfl sz5 (by simp; omega) (.s .z) ?_
              refine J.nil ?_
              refine EJ.inN ?_
              refine EJ.thenN (hK20 ?_)
              refine CJ.region ?_
              refine J.p (PR.move rfl) rfl ?_
              refine J.p (PR.add rfl rfl (by first | exact nw _ (by omega) | rfl)) rfl ?_
              refine J.p (PR.assign rfl) rfl ?_
              refine J.nil ?_
              refine EJ.thenN ?_
              exact hAg2 (j + 1) (by omega) (by omega) 16 rfl rfl ⟨rfl, trivial⟩ rfl (by simp only [frK_yes (p := (tm f i).mono) (show j < 8 by omega) (show k ≤ j by omega), bkK_yes (p := (tm f i).mono) (show j < 8 by omega) (show j ≤ k by omega)])
            ·
              refine CJ.skip ?_
              refine EJ.inN ?_
              refine EJ.thenN (hK20 ?_)
              refine CJ.region ?_
              refine J.p (PR.move rfl) rfl ?_
              refine J.p (PR.add rfl rfl (by first | exact nw _ (by omega) | rfl)) rfl ?_
              refine J.p (PR.assign rfl) rfl ?_
              refine J.nil ?_
              refine EJ.thenN ?_
              exact hAg2 (j + 1) (by omega) (by omega) 14 rfl rfl ⟨rfl, trivial⟩ rfl (by simp only [frK_yes (p := (tm f i).mono) (show j < 8 by omega) (show k ≤ j by omega), bkK_no (p := (tm f i).mono) (show ¬ j ≤ k by omega)])
          ·
            refine CJ.skip ?_
            refine EJ.thenN (hK21 ?_)
            refine CJ.seq fun _ hK24 _ => ?_
            refine CJ.region ?_
            refine J.p (PR.move rfl) rfl ?_
            refine J.p (PR.move rfl) rfl ?_
            refine J.p (PR.leq rfl rfl) rfl ?_
            refine J.nil ?_
            refine EJ.thenN (hK24 ?_)
            refine CJ.condD rfl (fun h53 => ?_) (fun h53 => ?_)
            ·
              refine CJ.region ?_
              refine J.p (PR.move rfl) rfl ?_
              refine J.p (PR.idxA1 u64 sz5 rfl rfl rfl (by omega)) rfl ?_
              refine J.storeB rfl rfl sz5 (by simp; omega) (.s .z) ?_
              refine J.nil ?_
              refine EJ.inN ?_
              refine EJ.thenN (hK20 ?_)
              refine CJ.region ?_
              refine J.p (PR.move rfl) rfl ?_
              refine J.p (PR.add rfl rfl (by first | exact nw _ (by omega) | rfl)) rfl ?_
              refine J.p (PR.assign rfl) rfl ?_
              refine J.nil ?_
              refine EJ.thenN ?_
              exact hAg2 (j + 1) (by omega) (by omega) 14 rfl rfl ⟨rfl, trivial⟩ rfl (by simp only [frK_no (p := (tm f i).mono) (show ¬ k ≤ j by omega), bkK_yes (p := (tm f i).mono) (show j < 8 by omega) (show j ≤ k by omega)])
            ·
              refine CJ.skip ?_
              refine EJ.inN ?_
              refine EJ.thenN (hK20 ?_)
              refine CJ.region ?_
              refine J.p (PR.move rfl) rfl ?_
              refine J.p (PR.add rfl rfl (by first | exact nw _ (by omega) | rfl)) rfl ?_
              refine J.p (PR.assign rfl) rfl ?_
              refine J.nil ?_
              refine EJ.thenN ?_
              exact hAg2 (j + 1) (by omega) (by omega) 12 rfl rfl ⟨rfl, trivial⟩ rfl (by simp only [frK_no (p := (tm f i).mono) (show ¬ k ≤ j by omega), bkK_no (p := (tm f i).mono) (show ¬ j ≤ k by omega)])
        ·
          obtain rfl : j = 8 := by omega
          rw [frK_end, bkK_end]
          refine CJ.exit ?_
          refine EJ.thenE ?_
          refine EJ.thenE ?_
          refine EJ.inE ?_
          refine EJ.thenN (hK16 ?_)
          refine CJ.seq fun _ hK25 _ => ?_
          refine CJ.region ?_
          refine J.p (PR.loadAll rfl At.z (by simpa using ag64)) rfl ?_
          refine J.alloc ze64 rfl fun g12 => ?_
          refine J.storeAll rfl rfl (by first | exact bytesC_one _ | exact intsC_one _ | exact Term.c_one _ | simp [Value.oneCell']) (by simpa [*] using sz64) (by simp [*]) At.z ?_
          refine J.nil ?_
          refine EJ.thenN (hK25 ?_)
          refine CJ.seq fun _ hK26 _ => ?_
          refine CJ.region ?_
          refine J.p (PR.move rfl) rfl ?_
          refine J.p (PR.move rfl) rfl ?_
          refine J.p (PR.idxA1 u64 sz5 rfl rfl rfl (by omega)) rfl ?_
          refine J.p (PR.load rfl (.s (.s (.s .z))) (bytesC_get (by omega)) pl5) rfl ?_
          refine J.p (PR.sub rfl rfl (u8_id (by omega))) rfl ?_
          refine J.p (PR.idxA1 u64 sz5 rfl rfl rfl (by omega)) rfl ?_
          refine J.storeB rfl rfl sz5 (by simp; omega) At.z ?_
          refine J.nil ?_
          refine EJ.thenN (hK26 ?_)
          refine CJ.seq fun _ hK27 _ => ?_
          refine CJ.regionD foll0 (by kernel_rfl) ?_
          refine JS.op (PR.fldA u32 rfl sz30 rfl) rfl ?_
          refine JS.op (PR.load rfl (.s (.s (.s (.s (.s (.s (.s .z))))))) rfl pl30) rfl ?_
          refine JS.op (PR.move rfl) rfl ?_
          refine JS.op (PR.idx u30 sz66 rfl rfl rfl (by omega) hf.sm) rfl ?_
          refine JS.op (PR.fldP u66 rfl sz2 rfl (hf.sm (i := i) (by omega))) rfl ?_
          refine JS.op (PR.loadH rfl (hf.fac (by omega)) pl2) rfl ?_
          refine JS.op (PR.move rfl) rfl ?_
          refine JS.op (PR.idxA1 u64 sz5 rfl rfl rfl (by omega)) rfl ?_
          refine JS.op (PR.load rfl (.s (.s (.s .z))) (bytesC_get (by omega)) pl5) rfl ?_
          refine JS.op (PR.conv u5 u2 rfl (by first | exact nw _ (by omega) | rfl)) rfl ?_
          refine JS.op (PR.mul rfl rfl (by first | exact nw _ (by omega) | rfl)) rfl ?_
          refine JS.op (PR.assign rfl) rfl ?_
          refine JS.nil ?_
          refine EJ.thenN (hK27 ?_)
          refine CJ.seq fun _ hK28 _ => ?_
          refine CJ.seq fun _ hK29 _ => ?_
          refine CJ.region ?_
          refine J.p (PR.fldA u44 rfl sz22 rfl) rfl ?_
          refine J.p (PR.load rfl (.s (.s (.s (.s (.s (.s (.s (.s .z)))))))) rfl pl22) rfl ?_
          refine J.p (PR.loadAll rfl (.s .z) (by simpa using ag64)) rfl ?_
          refine J.call fn65 rfl rfl fun w hH => (l01Weight_c had hfm hn hd hH).mono ?_
          rintro _ w ⟨rfl, hH⟩
          refine ⟨_, rfl, fun a hF => J.of hF hH ?_⟩
          refine J.p (PR.rem rfl rfl (by decide) rfl) rfl ?_
          refine J.p (PR.neq rfl rfl) rfl ?_
          refine J.nil ?_
          refine EJ.thenN (hK29 ?_)
          refine CJ.condD rfl (fun h79 => ?_) (fun h79 => ?_)
          ·
            refine CJ.region ?_
            refine J.p (PR.move rfl) rfl ?_
            refine J.p (PR.neg rfl (by first | exact nw _ (by omega) | rfl)) rfl ?_
            refine J.p (PR.assign rfl) rfl ?_
            refine J.nil ?_
            refine EJ.thenN (hK28 ?_)
            refine CJ.seq fun _ hK30 _ => ?_
            refine CJ.openR (Rs := [_, _, _, _, _, _, _, _, _]) 12 [[], [0], [], [2], [], [4], [], [4, 5, 6], [4, 5, 6, 7], [0, 1, 2, 3, 4, 5, 6, 7, 8], [], [0, 1, 2, 3, 4, 5, 6, 7, 8, 9, 10]] [[], [20], [12], [], [], [20], [], [], [], [3], [], []] [[], [], [], [], [], [], [], [], [], [], [], [10]] rfl rfl (by kernel_rfl) ?_
            apply GJ.st0 1 rfl
            iterate 3 focus (intros; (conv => lhs; simp only [slotsZ, zlAt, vs0, resL, at2, eq_self, Nat.reduceEqDiff, reduceIte, Nat.reduceSub, Nat.reduceAdd, List.cons_append, List.nil_append]); all_goals rfl)
            ·
              intro gh X K zq zc zq2 zc2 zb zv hK
              refine J.p (PR.fldA u44 rfl sz22 rfl) rfl ?_
              refine J.nilK ?_
              exact hK zq zc zq2 zc2 zb zv
            ·
              intro gh gh' h
              rfl
            apply GJ.st0 2 rfl
            iterate 3 focus (intros; (conv => lhs; simp only [slotsZ, zlAt, vs0, resL, at2, eq_self, Nat.reduceEqDiff, reduceIte, Nat.reduceSub, Nat.reduceAdd, List.cons_append, List.nil_append]); all_goals rfl)
            ·
              intro gh X K zq zc zq2 zc2 zb zv hK
              refine J.p (PR.load rfl At.z rfl pl22) rfl ?_
              refine J.nilK ?_
              exact hK zq zc zq2 zc2 zb zv
            ·
              intro gh gh' h
              rfl
            apply GJ.st0 3 rfl
            iterate 3 focus (intros; (conv => lhs; simp only [slotsZ, zlAt, vs0, resL, at2, eq_self, Nat.reduceEqDiff, reduceIte, Nat.reduceSub, Nat.reduceAdd, List.cons_append, List.nil_append]); all_goals rfl)
            ·
              intro gh X K zq zc zq2 zc2 zb zv hK
              refine J.p (PR.loadAll rfl At.z (by simpa using ag64)) rfl ?_
              refine J.nilK ?_
              exact hK zq zc zq2 zc2 zb zv
            ·
              intro gh gh' h
              rfl
            apply GJ.st1 4 rfl
            iterate 3 focus (intros; (conv => lhs; simp only [slotsZ, zlAt, vs0, resL, at2, eq_self, Nat.reduceEqDiff, reduceIte, Nat.reduceSub, Nat.reduceAdd, List.cons_append, List.nil_append]); all_goals rfl)
            ·
              intro gh X K zq zc zq2 zc2 zb zv hK
              refine J.call fn67 rfl rfl fun w hH => (l01Single_c hlm (by omega) hH).mono ?_
              rintro _ w ⟨qo85, co85, rfl, hH⟩
              refine ⟨_, rfl, fun a hF => J.of hF hH ?_⟩
              refine J.nilK ?_
              exact hK qo85 co85 zq2 zc2 zb zv
            ·
              intro gh gh' h
              refine ⟨?_, ?_⟩ <;> rfl
            apply GJ.st0 5 rfl
            iterate 3 focus (intros; (conv => lhs; simp only [slotsZ, zlAt, vs0, resL, at2, eq_self, Nat.reduceEqDiff, reduceIte, Nat.reduceSub, Nat.reduceAdd, List.cons_append, List.nil_append]); all_goals rfl)
            ·
              intro gh X K zq zc zq2 zc2 zb zv hK
              refine J.p (PR.fldA u44 rfl sz42 rfl) rfl ?_
              refine J.nilK ?_
              exact hK zq zc zq2 zc2 zb zv
            ·
              intro gh gh' h
              rfl
            apply GJ.st0 6 rfl
            iterate 3 focus (intros; (conv => lhs; simp only [slotsZ, zlAt, vs0, resL, at2, eq_self, Nat.reduceEqDiff, reduceIte, Nat.reduceSub, Nat.reduceAdd, List.cons_append, List.nil_append]); all_goals rfl)
            ·
              intro gh X K zq zc zq2 zc2 zb zv hK
              refine J.p (PR.load rfl At.z rfl pl42) rfl ?_
              refine J.nilK ?_
              exact hK zq zc zq2 zc2 zb zv
            ·
              intro gh gh' h
              rfl
            apply GJ.st0 7 rfl
            iterate 3 focus (intros; (conv => lhs; simp only [slotsZ, zlAt, vs0, resL, at2, eq_self, Nat.reduceEqDiff, reduceIte, Nat.reduceSub, Nat.reduceAdd, List.cons_append, List.nil_append]); all_goals rfl)
            ·
              intro gh X K zq zc zq2 zc2 zb zv hK
              refine J.p (PR.move rfl) rfl ?_
              refine J.nilK ?_
              exact hK zq zc zq2 zc2 zb zv
            ·
              intro gh gh' h
              rfl
            apply GJ.st0 8 rfl
            iterate 3 focus (intros; (conv => lhs; simp only [slotsZ, zlAt, vs0, resL, at2, eq_self, Nat.reduceEqDiff, reduceIte, Nat.reduceSub, Nat.reduceAdd, List.cons_append, List.nil_append]); all_goals rfl)
            ·
              intro gh X K zq zc zq2 zc2 zb zv hK
              refine J.p (PR.idx1 u42 sz32 rfl rfl rfl (by omega) haf.sm) rfl ?_
              refine J.nilK ?_
              exact hK zq zc zq2 zc2 zb zv
            ·
              intro gh gh' h
              rfl
            obtain ⟨qe90, ce90, he90, le90, Fe90⟩ := haf k (by omega)
            apply GJ.st0 9 rfl
            iterate 3 focus (intros; (conv => lhs; simp only [slotsZ, zlAt, vs0, resL, at2, eq_self, Nat.reduceEqDiff, reduceIte, Nat.reduceSub, Nat.reduceAdd, List.cons_append, List.nil_append]); all_goals rfl)
            ·
              intro gh X K zq zc zq2 zc2 zb zv hK
              refine J.p (PR.loadHagg (cs := [_]) rfl (one_cell he90) (haf.sm (i := k) (by omega)) ag32) rfl ?_
              refine J.nilK ?_
              exact hK zq zc zq2 zc2 zb zv
            ·
              intro gh gh' h
              rfl
            apply GJ.st1 10 rfl
            iterate 3 focus (intros; (conv => lhs; simp only [slotsZ, zlAt, vs0, resL, at2, eq_self, Nat.reduceEqDiff, reduceIte, Nat.reduceSub, Nat.reduceAdd, List.cons_append, List.nil_append]); all_goals rfl)
            ·
              intro gh X K zq zc zq2 zc2 zb zv hK
              refine J.call fn66 rfl rfl fun w hH => hH.lend .z fun Hl1 hle1 hA1 hB1 hH => (l01Times_c (had.le hle1) (own_terms (one_wf hlm) hA1) (Fe90.le hle1) hn hd (one_kex hle) (hk9 k hkl) (one_g hlp) (hf9 k hkl).1.g (by omega) (by rw [one_len]; omega) (by rw [one_len]; omega) hH).mono ?_
              rintro _ w ⟨qo91, co91, rfl, hH⟩
              replace hH := hB1 _ _ hH
              refine ⟨_, rfl, fun a hF => J.of hF hH ?_⟩
              refine EJ.front .z ?_
              refine EJ.front (.s .z) ?_
              refine J.nilK ?_
              exact hK qo91 co91 zq2 zc2 zb zv
            ·
              intro gh gh' h
              refine ⟨?_, ?_⟩ <;> (first | simp only [h 3 rfl] | rfl)
            apply GJ.st1 11 rfl
            iterate 3 focus (intros; (conv => lhs; simp only [slotsZ, zlAt, vs0, resL, at2, eq_self, Nat.reduceEqDiff, reduceIte, Nat.reduceSub, Nat.reduceAdd, List.cons_append, List.nil_append]); all_goals rfl)
            ·
              intro gh X K zq zc zq2 zc2 zb zv hK
              refine J.alloc ze32 rfl fun g14 => ?_
              refine J.nilK ?_
              exact hK zq zc zq2 zc2 g14 zv
            ·
              intro gh gh' h
              refine ⟨?_, ?_⟩ <;> rfl
            apply GJ.sn1 12 rfl
            iterate 3 focus (intros; (conv => lhs; simp only [slotsZ, zlAt, vs0, resL, at2, eq_self, Nat.reduceEqDiff, reduceIte, Nat.reduceSub, Nat.reduceAdd, List.cons_append, List.nil_append]); all_goals rfl)
            ·
              intro gh X K hK
              refine J.storeAll rfl rfl (by first | exact bytesC_one _ | exact intsC_one _ | exact Term.c_one _ | simp [Value.oneCell']) (by simpa [*] using sz32) (by simp [*]) At.z ?_
              refine J.nilK ?_
              exact hK
            ·
              intro gh gh' h
              first | simp only [h 3 rfl, h 9 rfl, h 10 rfl] | rfl
            apply GJ.close [0, 1, 2, 3, 4, 5, 6, 7, 8, 9, 10, 11] [0, 1, 2, 3, 4, 5, 6, 7, 8, 9, 11, 12, 13, 14, 15, 16, 17, 18, 19, 20] foll0 rfl rfl rfl (by rfl)
            iterate 2 focus (intros; (conv => lhs; simp only [slotsZ, zlAt, vs0, resL, at2, eq_self, Nat.reduceEqDiff, reduceIte, Nat.reduceSub, Nat.reduceAdd, List.cons_append, List.nil_append]); all_goals rfl)
            intro gh
            generalize (gh 3).c = co85
            generalize (gh 3).q = qo85
            generalize (gh 9).c = co91
            generalize (gh 9).q = qo91
            generalize (gh 10).b = g14
            clear gh
            refine EJ.thenN (hK30 ?_)
            refine CJ.openR (Rs := [_, _, _, _, _, _, _, _, _, _, _, _]) 11 [[], [], [1], [], [], [4], [1, 2, 3, 4, 5], [], [1, 2, 3, 4, 5, 6, 7], [0, 1, 2, 3, 4, 5, 6, 7, 8], [0, 1, 2, 3, 4, 5, 6, 7, 8, 9]] [[18], [], [22], [13], [16], [], [5, 12], [], [], [6, 19], []] [[], [], [], [], [], [], [], [], [], [], [18]] rfl rfl (by kernel_rfl) ?_
            apply GJ.st0 1 rfl
            iterate 3 focus (intros; (conv => lhs; simp only [slotsZ, zlAt, vs0, resL, at2, eq_self, Nat.reduceEqDiff, reduceIte, Nat.reduceSub, Nat.reduceAdd, List.cons_append, List.nil_append]); all_goals rfl)
            ·
              intro gh X K zq zc zq2 zc2 zb zv hK
              refine J.p (PR.loadAll rfl At.z (by simpa [*] using ag32)) rfl ?_
              refine J.nilK ?_
              exact hK zq zc zq2 zc2 zb zv
            ·
              intro gh gh' h
              rfl
            apply GJ.st0 2 rfl
            iterate 3 focus (intros; (conv => lhs; simp only [slotsZ, zlAt, vs0, resL, at2, eq_self, Nat.reduceEqDiff, reduceIte, Nat.reduceSub, Nat.reduceAdd, List.cons_append, List.nil_append]); all_goals rfl)
            ·
              intro gh X K zq zc zq2 zc2 zb zv hK
              refine J.p (PR.fldA u44 rfl sz22 rfl) rfl ?_
              refine J.nilK ?_
              exact hK zq zc zq2 zc2 zb zv
            ·
              intro gh gh' h
              rfl
            apply GJ.st0 3 rfl
            iterate 3 focus (intros; (conv => lhs; simp only [slotsZ, zlAt, vs0, resL, at2, eq_self, Nat.reduceEqDiff, reduceIte, Nat.reduceSub, Nat.reduceAdd, List.cons_append, List.nil_append]); all_goals rfl)
            ·
              intro gh X K zq zc zq2 zc2 zb zv hK
              refine J.p (PR.load rfl At.z rfl pl22) rfl ?_
              refine J.nilK ?_
              exact hK zq zc zq2 zc2 zb zv
            ·
              intro gh gh' h
              rfl
            apply GJ.st0 4 rfl
            iterate 3 focus (intros; (conv => lhs; simp only [slotsZ, zlAt, vs0, resL, at2, eq_self, Nat.reduceEqDiff, reduceIte, Nat.reduceSub, Nat.reduceAdd, List.cons_append, List.nil_append]); all_goals rfl)
            ·
              intro gh X K zq zc zq2 zc2 zb zv hK
              refine J.p (PR.loadAll rfl At.z (by simpa [*] using ag32)) rfl ?_
              refine J.nilK ?_
              exact hK zq zc zq2 zc2 zb zv
            ·
              intro gh gh' h
              rfl
            apply GJ.st0 5 rfl
            iterate 3 focus (intros; (conv => lhs; simp only [slotsZ, zlAt, vs0, resL, at2, eq_self, Nat.reduceEqDiff, reduceIte, Nat.reduceSub, Nat.reduceAdd, List.cons_append, List.nil_append]); all_goals rfl)
            ·
              intro gh X K zq zc zq2 zc2 zb zv hK
              refine J.p (PR.loadAll rfl At.z (by simpa using ag64)) rfl ?_
              refine J.nilK ?_
              exact hK zq zc zq2 zc2 zb zv
            ·
              intro gh gh' h
              rfl
            apply GJ.st1 6 rfl
            iterate 3 focus (intros; (conv => lhs; simp only [slotsZ, zlAt, vs0, resL, at2, eq_self, Nat.reduceEqDiff, reduceIte, Nat.reduceSub, Nat.reduceAdd, List.cons_append, List.nil_append]); all_goals rfl)
            ·
              intro gh X K zq zc zq2 zc2 zb zv hK
              refine J.call fn67 rfl rfl fun w hH => (l01Single_c hbm (by omega) hH).mono ?_
              rintro _ w ⟨qo97, co97, rfl, hH⟩
              refine ⟨_, rfl, fun a hF => J.of hF hH ?_⟩
              refine J.nilK ?_
              exact hK qo97 co97 zq2 zc2 zb zv
            ·
              intro gh gh' h
              refine ⟨?_, ?_⟩ <;> rfl
            apply GJ.st1 7 rfl
            iterate 3 focus (intros; (conv => lhs; simp only [slotsZ, zlAt, vs0, resL, at2, eq_self, Nat.reduceEqDiff, reduceIte, Nat.reduceSub, Nat.reduceAdd, List.cons_append, List.nil_append]); all_goals rfl)
            ·
              intro gh X K zq zc zq2 zc2 zb zv hK
              refine J.call fn66 rfl rfl fun w hH => hH.lend (.s .z) fun Hl1 hle1 hA1 hB1 hH => hH.lend .z fun Hl2 hle2 hA2 hB2 hH => (l01Times_c ((had.le hle1).le hle2) ((own_terms (by simp only [toS_ofS, addS_one]; exact gt1.wf (by omega)) hA1).le hle2) (own_terms (one_wf hbm) hA2) hn hd (by rw [toS_ofS]; exact times_kex (one_g hlp) (hf9 k hkl).1.g (one_kex hle) (hk9 k hkl)) (one_kex hbe) (by simp only [toS_ofS, addS_one]; exact gt1.g) (one_g hbp) (by omega) (by have h := times_len ad (toS (ofS (addS [] (leftP (tm f i).mono k) 1))) (toS (fm af k)); rw [toS_len, toS_len, one_len] at h; rw [one_len, ofS_len]; omega) (by have h := times_len ad (toS (ofS (addS [] (leftP (tm f i).mono k) 1))) (toS (fm af k)); rw [toS_len, toS_len, one_len] at h; rw [ofS_len]; omega) hH).mono ?_
              rintro _ w ⟨qo98, co98, rfl, hH⟩
              replace hH := hB2 _ _ hH
              replace hH := hB1 _ _ hH
              refine ⟨_, rfl, fun a hF => J.of hF hH ?_⟩
              refine EJ.front .z ?_
              refine EJ.front (.s .z) ?_
              refine EJ.front (.s (.s .z)) ?_
              refine J.nilK ?_
              exact hK qo98 co98 zq2 zc2 zb zv
            ·
              intro gh gh' h
              refine ⟨?_, ?_⟩ <;> (first | simp only [h 5 rfl] | rfl)
            apply GJ.st0 8 rfl
            iterate 3 focus (intros; (conv => lhs; simp only [slotsZ, zlAt, vs0, resL, at2, eq_self, Nat.reduceEqDiff, reduceIte, Nat.reduceSub, Nat.reduceAdd, List.cons_append, List.nil_append]); all_goals rfl)
            ·
              intro gh X K zq zc zq2 zc2 zb zv hK
              refine J.p (PR.move rfl) rfl ?_
              refine J.nilK ?_
              exact hK zq zc zq2 zc2 zb zv
            ·
              intro gh gh' h
              rfl
            apply GJ.st0 9 rfl
            iterate 3 focus (intros; (conv => lhs; simp only [slotsZ, zlAt, vs0, resL, at2, eq_self, Nat.reduceEqDiff, reduceIte, Nat.reduceSub, Nat.reduceAdd, List.cons_append, List.nil_append]); all_goals rfl)
            ·
              intro gh X K zq zc zq2 zc2 zb zv hK
              refine J.call fn69 rfl rfl fun w hH => (l01Mod_c (by omega) hH).mono ?_
              rintro _ w ⟨rfl, hH⟩
              refine ⟨_, rfl, fun a hF => J.of hF hH ?_⟩
              refine J.nilK ?_
              exact hK zq zc zq2 zc2 zb zv
            ·
              intro gh gh' h
              first | simp only [h 5 rfl, h 6 rfl] | rfl
            apply GJ.st1 10 rfl
            iterate 3 focus (intros; (conv => lhs; simp only [slotsZ, zlAt, vs0, resL, at2, eq_self, Nat.reduceEqDiff, reduceIte, Nat.reduceSub, Nat.reduceAdd, List.cons_append, List.nil_append]); all_goals rfl)
            ·
              intro gh X K zq zc zq2 zc2 zb zv hK
              refine J.call fn68 rfl rfl fun w hH => hH.lend (.s .z) fun Hl1 hle1 hA1 hB1 hH => hH.lend .z fun Hl2 hle2 hA2 hB2 hH => (l01Add_c ((own_terms wfO hA1).le hle2) (own_terms (by simp only [toS_ofS, addS_one]; exact gt2.wf (by omega)) hA2) (by rw [toS_ofS]; exact d2_sok hf9 hs hoc (by omega) k) (by simp only [toS_ofS, addS_one]; exact gt2.g) (by omega) (fld_bd _) (by have h1 := dT_len ad (toS (fm af k)) (tm f i).mono k; unfold dT at h1; rw [toS_len] at h1; simp only [toS_ofS, addS_one, ofS_len]; omega) hH).mono ?_
              rintro _ w ⟨qo101, co101, rfl, hH⟩
              replace hH := hB2 _ _ hH
              replace hH := hB1 _ _ hH
              refine ⟨_, rfl, fun a hF => J.of hF hH ?_⟩
              refine EJ.front .z ?_
              refine EJ.front (.s .z) ?_
              refine EJ.front (.s (.s .z)) ?_
              refine J.nilK ?_
              exact hK qo101 co101 zq2 zc2 zb zv
            ·
              intro gh gh' h
              refine ⟨?_, ?_⟩ <;> (first | simp only [h 5 rfl, h 6 rfl] | rfl)
            apply GJ.sn1 11 rfl
            iterate 3 focus (intros; (conv => lhs; simp only [slotsZ, zlAt, vs0, resL, at2, eq_self, Nat.reduceEqDiff, reduceIte, Nat.reduceSub, Nat.reduceAdd, List.cons_append, List.nil_append]); all_goals rfl)
            ·
              intro gh X K hK
              refine J.storeAll rfl rfl (by first | exact bytesC_one _ | exact intsC_one _ | exact Term.c_one _ | simp [Value.oneCell']) (by simpa [*] using sz32) (by simp [*]) At.z ?_
              refine J.nilK ?_
              exact hK
            ·
              intro gh gh' h
              first | simp only [h 5 rfl, h 6 rfl, h 9 rfl] | rfl
            apply GJ.close [0, 1, 2, 3, 4, 5, 6, 7, 8, 9, 10] [0, 1, 2, 3, 4, 5, 6, 7, 8, 9, 10, 11, 12, 13, 14, 15, 16, 17, 19, 20, 21, 22] foll0 rfl rfl rfl (by rfl)
            iterate 2 focus (intros; (conv => lhs; simp only [slotsZ, zlAt, vs0, resL, at2, eq_self, Nat.reduceEqDiff, reduceIte, Nat.reduceSub, Nat.reduceAdd, List.cons_append, List.nil_append]); all_goals rfl)
            intro gh
            generalize (gh 5).c = co97
            generalize (gh 5).q = qo97
            generalize (gh 6).c = co98
            generalize (gh 6).q = qo98
            generalize (gh 9).c = co101
            generalize (gh 9).q = qo101
            clear gh
            refine EJ.inN ?_
            refine EJ.thenN (hK12 ?_)
            refine CJ.region ?_
            refine J.p (PR.move rfl) rfl ?_
            refine J.p (PR.add rfl rfl (by first | exact nw _ (by omega) | rfl)) rfl ?_
            refine J.p (PR.assign rfl) rfl ?_
            refine J.nil ?_
            refine EJ.thenN ?_
            refine EJ.drop (.s (.s (.s (.s (.s (.s (.s (.s (.s (.s (.s .z))))))))))) ?_
            refine EJ.drop .z ?_
            refine EJ.drop .z ?_
            refine EJ.drop (.s (.s .z)) ?_
            refine EJ.drop (.s (.s .z)) ?_
            refine EJ.drop (.s (.s .z)) ?_
            refine EJ.drop (.s (.s .z)) ?_
            refine EJ.drop (.s (.s .z)) ?_
            refine EJ.drop (.s (.s .z)) ?_
            refine EJ.front (.s (.s (.s (.s (.s .z))))) ?_
            refine EJ.front (.s (.s (.s (.s (.s .z))))) ?_
            refine EJ.front (.s (.s (.s (.s (.s .z))))) ?_
            refine EJ.front (.s (.s (.s .z))) ?_
            refine EJ.front (.s (.s (.s (.s .z)))) ?_
            refine EJ.front (.s (.s (.s (.s (.s .z))))) ?_
            exact hAg1 (qo101, co101, k + 1) (by show k + 1 ≤ ad.length; omega) (by show ad.length - (k + 1) < ad.length - k; omega) 71 rfl rfl ⟨rfl, trivial⟩ rfl (by simp only [toS_ofS, addS_one]; rw [← acc_dP (ds := ad) (fs := af) (x := ((tm f i).mono, (tm f i).fac)) (k := k) hpos, fac_neg (sg_neg hn hd hxn (by omega) h79)]; rfl)
          ·
            refine CJ.skip ?_
            refine EJ.thenN (hK28 ?_)
            refine CJ.seq fun _ hK31 _ => ?_
            refine CJ.openR (Rs := [_, _, _, _, _, _, _, _, _]) 12 [[], [0], [], [2], [], [4], [], [4, 5, 6], [4, 5, 6, 7], [0, 1, 2, 3, 4, 5, 6, 7, 8], [], [0, 1, 2, 3, 4, 5, 6, 7, 8, 9, 10]] [[], [20], [12], [], [], [20], [], [], [], [3], [], []] [[], [], [], [], [], [], [], [], [], [], [], [10]] rfl rfl (by kernel_rfl) ?_
            apply GJ.st0 1 rfl
            iterate 3 focus (intros; (conv => lhs; simp only [slotsZ, zlAt, vs0, resL, at2, eq_self, Nat.reduceEqDiff, reduceIte, Nat.reduceSub, Nat.reduceAdd, List.cons_append, List.nil_append]); all_goals rfl)
            ·
              intro gh X K zq zc zq2 zc2 zb zv hK
              refine J.p (PR.fldA u44 rfl sz22 rfl) rfl ?_
              refine J.nilK ?_
              exact hK zq zc zq2 zc2 zb zv
            ·
              intro gh gh' h
              rfl
            apply GJ.st0 2 rfl
            iterate 3 focus (intros; (conv => lhs; simp only [slotsZ, zlAt, vs0, resL, at2, eq_self, Nat.reduceEqDiff, reduceIte, Nat.reduceSub, Nat.reduceAdd, List.cons_append, List.nil_append]); all_goals rfl)
            ·
              intro gh X K zq zc zq2 zc2 zb zv hK
              refine J.p (PR.load rfl At.z rfl pl22) rfl ?_
              refine J.nilK ?_
              exact hK zq zc zq2 zc2 zb zv
            ·
              intro gh gh' h
              rfl
            apply GJ.st0 3 rfl
            iterate 3 focus (intros; (conv => lhs; simp only [slotsZ, zlAt, vs0, resL, at2, eq_self, Nat.reduceEqDiff, reduceIte, Nat.reduceSub, Nat.reduceAdd, List.cons_append, List.nil_append]); all_goals rfl)
            ·
              intro gh X K zq zc zq2 zc2 zb zv hK
              refine J.p (PR.loadAll rfl At.z (by simpa using ag64)) rfl ?_
              refine J.nilK ?_
              exact hK zq zc zq2 zc2 zb zv
            ·
              intro gh gh' h
              rfl
            apply GJ.st1 4 rfl
            iterate 3 focus (intros; (conv => lhs; simp only [slotsZ, zlAt, vs0, resL, at2, eq_self, Nat.reduceEqDiff, reduceIte, Nat.reduceSub, Nat.reduceAdd, List.cons_append, List.nil_append]); all_goals rfl)
            ·
              intro gh X K zq zc zq2 zc2 zb zv hK
              refine J.call fn67 rfl rfl fun w hH => (l01Single_c hlm (by omega) hH).mono ?_
              rintro _ w ⟨qo85, co85, rfl, hH⟩
              refine ⟨_, rfl, fun a hF => J.of hF hH ?_⟩
              refine J.nilK ?_
              exact hK qo85 co85 zq2 zc2 zb zv
            ·
              intro gh gh' h
              refine ⟨?_, ?_⟩ <;> rfl
            apply GJ.st0 5 rfl
            iterate 3 focus (intros; (conv => lhs; simp only [slotsZ, zlAt, vs0, resL, at2, eq_self, Nat.reduceEqDiff, reduceIte, Nat.reduceSub, Nat.reduceAdd, List.cons_append, List.nil_append]); all_goals rfl)
            ·
              intro gh X K zq zc zq2 zc2 zb zv hK
              refine J.p (PR.fldA u44 rfl sz42 rfl) rfl ?_
              refine J.nilK ?_
              exact hK zq zc zq2 zc2 zb zv
            ·
              intro gh gh' h
              rfl
            apply GJ.st0 6 rfl
            iterate 3 focus (intros; (conv => lhs; simp only [slotsZ, zlAt, vs0, resL, at2, eq_self, Nat.reduceEqDiff, reduceIte, Nat.reduceSub, Nat.reduceAdd, List.cons_append, List.nil_append]); all_goals rfl)
            ·
              intro gh X K zq zc zq2 zc2 zb zv hK
              refine J.p (PR.load rfl At.z rfl pl42) rfl ?_
              refine J.nilK ?_
              exact hK zq zc zq2 zc2 zb zv
            ·
              intro gh gh' h
              rfl
            apply GJ.st0 7 rfl
            iterate 3 focus (intros; (conv => lhs; simp only [slotsZ, zlAt, vs0, resL, at2, eq_self, Nat.reduceEqDiff, reduceIte, Nat.reduceSub, Nat.reduceAdd, List.cons_append, List.nil_append]); all_goals rfl)
            ·
              intro gh X K zq zc zq2 zc2 zb zv hK
              refine J.p (PR.move rfl) rfl ?_
              refine J.nilK ?_
              exact hK zq zc zq2 zc2 zb zv
            ·
              intro gh gh' h
              rfl
            apply GJ.st0 8 rfl
            iterate 3 focus (intros; (conv => lhs; simp only [slotsZ, zlAt, vs0, resL, at2, eq_self, Nat.reduceEqDiff, reduceIte, Nat.reduceSub, Nat.reduceAdd, List.cons_append, List.nil_append]); all_goals rfl)
            ·
              intro gh X K zq zc zq2 zc2 zb zv hK
              refine J.p (PR.idx1 u42 sz32 rfl rfl rfl (by omega) haf.sm) rfl ?_
              refine J.nilK ?_
              exact hK zq zc zq2 zc2 zb zv
            ·
              intro gh gh' h
              rfl
            obtain ⟨qe90, ce90, he90, le90, Fe90⟩ := haf k (by omega)
            apply GJ.st0 9 rfl
            iterate 3 focus (intros; (conv => lhs; simp only [slotsZ, zlAt, vs0, resL, at2, eq_self, Nat.reduceEqDiff, reduceIte, Nat.reduceSub, Nat.reduceAdd, List.cons_append, List.nil_append]); all_goals rfl)
            ·
              intro gh X K zq zc zq2 zc2 zb zv hK
              refine J.p (PR.loadHagg (cs := [_]) rfl (one_cell he90) (haf.sm (i := k) (by omega)) ag32) rfl ?_
              refine J.nilK ?_
              exact hK zq zc zq2 zc2 zb zv
            ·
              intro gh gh' h
              rfl
            apply GJ.st1 10 rfl
            iterate 3 focus (intros; (conv => lhs; simp only [slotsZ, zlAt, vs0, resL, at2, eq_self, Nat.reduceEqDiff, reduceIte, Nat.reduceSub, Nat.reduceAdd, List.cons_append, List.nil_append]); all_goals rfl)
            ·
              intro gh X K zq zc zq2 zc2 zb zv hK
              refine J.call fn66 rfl rfl fun w hH => hH.lend .z fun Hl1 hle1 hA1 hB1 hH => (l01Times_c (had.le hle1) (own_terms (one_wf hlm) hA1) (Fe90.le hle1) hn hd (one_kex hle) (hk9 k hkl) (one_g hlp) (hf9 k hkl).1.g (by omega) (by rw [one_len]; omega) (by rw [one_len]; omega) hH).mono ?_
              rintro _ w ⟨qo91, co91, rfl, hH⟩
              replace hH := hB1 _ _ hH
              refine ⟨_, rfl, fun a hF => J.of hF hH ?_⟩
              refine EJ.front .z ?_
              refine EJ.front (.s .z) ?_
              refine J.nilK ?_
              exact hK qo91 co91 zq2 zc2 zb zv
            ·
              intro gh gh' h
              refine ⟨?_, ?_⟩ <;> (first | simp only [h 3 rfl] | rfl)
            apply GJ.st1 11 rfl
            iterate 3 focus (intros; (conv => lhs; simp only [slotsZ, zlAt, vs0, resL, at2, eq_self, Nat.reduceEqDiff, reduceIte, Nat.reduceSub, Nat.reduceAdd, List.cons_append, List.nil_append]); all_goals rfl)
            ·
              intro gh X K zq zc zq2 zc2 zb zv hK
              refine J.alloc ze32 rfl fun g14 => ?_
              refine J.nilK ?_
              exact hK zq zc zq2 zc2 g14 zv
            ·
              intro gh gh' h
              refine ⟨?_, ?_⟩ <;> rfl
            apply GJ.sn1 12 rfl
            iterate 3 focus (intros; (conv => lhs; simp only [slotsZ, zlAt, vs0, resL, at2, eq_self, Nat.reduceEqDiff, reduceIte, Nat.reduceSub, Nat.reduceAdd, List.cons_append, List.nil_append]); all_goals rfl)
            ·
              intro gh X K hK
              refine J.storeAll rfl rfl (by first | exact bytesC_one _ | exact intsC_one _ | exact Term.c_one _ | simp [Value.oneCell']) (by simpa [*] using sz32) (by simp [*]) At.z ?_
              refine J.nilK ?_
              exact hK
            ·
              intro gh gh' h
              first | simp only [h 3 rfl, h 9 rfl, h 10 rfl] | rfl
            apply GJ.close [0, 1, 2, 3, 4, 5, 6, 7, 8, 9, 10, 11] [0, 1, 2, 3, 4, 5, 6, 7, 8, 9, 11, 12, 13, 14, 15, 16, 17, 18, 19, 20] foll0 rfl rfl rfl (by rfl)
            iterate 2 focus (intros; (conv => lhs; simp only [slotsZ, zlAt, vs0, resL, at2, eq_self, Nat.reduceEqDiff, reduceIte, Nat.reduceSub, Nat.reduceAdd, List.cons_append, List.nil_append]); all_goals rfl)
            intro gh
            generalize (gh 3).c = co85
            generalize (gh 3).q = qo85
            generalize (gh 9).c = co91
            generalize (gh 9).q = qo91
            generalize (gh 10).b = g14
            clear gh
            refine EJ.thenN (hK31 ?_)
            refine CJ.openR (Rs := [_, _, _, _, _, _, _, _, _, _, _, _]) 11 [[], [], [1], [], [], [4], [1, 2, 3, 4, 5], [], [1, 2, 3, 4, 5, 6, 7], [0, 1, 2, 3, 4, 5, 6, 7, 8], [0, 1, 2, 3, 4, 5, 6, 7, 8, 9]] [[18], [], [22], [13], [16], [], [5, 12], [], [], [6, 19], []] [[], [], [], [], [], [], [], [], [], [], [18]] rfl rfl (by kernel_rfl) ?_
            apply GJ.st0 1 rfl
            iterate 3 focus (intros; (conv => lhs; simp only [slotsZ, zlAt, vs0, resL, at2, eq_self, Nat.reduceEqDiff, reduceIte, Nat.reduceSub, Nat.reduceAdd, List.cons_append, List.nil_append]); all_goals rfl)
            ·
              intro gh X K zq zc zq2 zc2 zb zv hK
              refine J.p (PR.loadAll rfl At.z (by simpa [*] using ag32)) rfl ?_
              refine J.nilK ?_
              exact hK zq zc zq2 zc2 zb zv
            ·
              intro gh gh' h
              rfl
            apply GJ.st0 2 rfl
            iterate 3 focus (intros; (conv => lhs; simp only [slotsZ, zlAt, vs0, resL, at2, eq_self, Nat.reduceEqDiff, reduceIte, Nat.reduceSub, Nat.reduceAdd, List.cons_append, List.nil_append]); all_goals rfl)
            ·
              intro gh X K zq zc zq2 zc2 zb zv hK
              refine J.p (PR.fldA u44 rfl sz22 rfl) rfl ?_
              refine J.nilK ?_
              exact hK zq zc zq2 zc2 zb zv
            ·
              intro gh gh' h
              rfl
            apply GJ.st0 3 rfl
            iterate 3 focus (intros; (conv => lhs; simp only [slotsZ, zlAt, vs0, resL, at2, eq_self, Nat.reduceEqDiff, reduceIte, Nat.reduceSub, Nat.reduceAdd, List.cons_append, List.nil_append]); all_goals rfl)
            ·
              intro gh X K zq zc zq2 zc2 zb zv hK
              refine J.p (PR.load rfl At.z rfl pl22) rfl ?_
              refine J.nilK ?_
              exact hK zq zc zq2 zc2 zb zv
            ·
              intro gh gh' h
              rfl
            apply GJ.st0 4 rfl
            iterate 3 focus (intros; (conv => lhs; simp only [slotsZ, zlAt, vs0, resL, at2, eq_self, Nat.reduceEqDiff, reduceIte, Nat.reduceSub, Nat.reduceAdd, List.cons_append, List.nil_append]); all_goals rfl)
            ·
              intro gh X K zq zc zq2 zc2 zb zv hK
              refine J.p (PR.loadAll rfl At.z (by simpa [*] using ag32)) rfl ?_
              refine J.nilK ?_
              exact hK zq zc zq2 zc2 zb zv
            ·
              intro gh gh' h
              rfl
            apply GJ.st0 5 rfl
            iterate 3 focus (intros; (conv => lhs; simp only [slotsZ, zlAt, vs0, resL, at2, eq_self, Nat.reduceEqDiff, reduceIte, Nat.reduceSub, Nat.reduceAdd, List.cons_append, List.nil_append]); all_goals rfl)
            ·
              intro gh X K zq zc zq2 zc2 zb zv hK
              refine J.p (PR.loadAll rfl At.z (by simpa using ag64)) rfl ?_
              refine J.nilK ?_
              exact hK zq zc zq2 zc2 zb zv
            ·
              intro gh gh' h
              rfl
            apply GJ.st1 6 rfl
            iterate 3 focus (intros; (conv => lhs; simp only [slotsZ, zlAt, vs0, resL, at2, eq_self, Nat.reduceEqDiff, reduceIte, Nat.reduceSub, Nat.reduceAdd, List.cons_append, List.nil_append]); all_goals rfl)
            ·
              intro gh X K zq zc zq2 zc2 zb zv hK
              refine J.call fn67 rfl rfl fun w hH => (l01Single_c hbm (by omega) hH).mono ?_
              rintro _ w ⟨qo97, co97, rfl, hH⟩
              refine ⟨_, rfl, fun a hF => J.of hF hH ?_⟩
              refine J.nilK ?_
              exact hK qo97 co97 zq2 zc2 zb zv
            ·
              intro gh gh' h
              refine ⟨?_, ?_⟩ <;> rfl
            apply GJ.st1 7 rfl
            iterate 3 focus (intros; (conv => lhs; simp only [slotsZ, zlAt, vs0, resL, at2, eq_self, Nat.reduceEqDiff, reduceIte, Nat.reduceSub, Nat.reduceAdd, List.cons_append, List.nil_append]); all_goals rfl)
            ·
              intro gh X K zq zc zq2 zc2 zb zv hK
              refine J.call fn66 rfl rfl fun w hH => hH.lend (.s .z) fun Hl1 hle1 hA1 hB1 hH => hH.lend .z fun Hl2 hle2 hA2 hB2 hH => (l01Times_c ((had.le hle1).le hle2) ((own_terms (by simp only [toS_ofS, addS_one]; exact gt1.wf (by omega)) hA1).le hle2) (own_terms (one_wf hbm) hA2) hn hd (by rw [toS_ofS]; exact times_kex (one_g hlp) (hf9 k hkl).1.g (one_kex hle) (hk9 k hkl)) (one_kex hbe) (by simp only [toS_ofS, addS_one]; exact gt1.g) (one_g hbp) (by omega) (by have h := times_len ad (toS (ofS (addS [] (leftP (tm f i).mono k) 1))) (toS (fm af k)); rw [toS_len, toS_len, one_len] at h; rw [one_len, ofS_len]; omega) (by have h := times_len ad (toS (ofS (addS [] (leftP (tm f i).mono k) 1))) (toS (fm af k)); rw [toS_len, toS_len, one_len] at h; rw [ofS_len]; omega) hH).mono ?_
              rintro _ w ⟨qo98, co98, rfl, hH⟩
              replace hH := hB2 _ _ hH
              replace hH := hB1 _ _ hH
              refine ⟨_, rfl, fun a hF => J.of hF hH ?_⟩
              refine EJ.front .z ?_
              refine EJ.front (.s .z) ?_
              refine EJ.front (.s (.s .z)) ?_
              refine J.nilK ?_
              exact hK qo98 co98 zq2 zc2 zb zv
            ·
              intro gh gh' h
              refine ⟨?_, ?_⟩ <;> (first | simp only [h 5 rfl] | rfl)
            apply GJ.st0 8 rfl
            iterate 3 focus (intros; (conv => lhs; simp only [slotsZ, zlAt, vs0, resL, at2, eq_self, Nat.reduceEqDiff, reduceIte, Nat.reduceSub, Nat.reduceAdd, List.cons_append, List.nil_append]); all_goals rfl)
            ·
              intro gh X K zq zc zq2 zc2 zb zv hK
              refine J.p (PR.move rfl) rfl ?_
              refine J.nilK ?_
              exact hK zq zc zq2 zc2 zb zv
            ·
              intro gh gh' h
              rfl
            apply GJ.st0 9 rfl
            iterate 3 focus (intros; (conv => lhs; simp only [slotsZ, zlAt, vs0, resL, at2, eq_self, Nat.reduceEqDiff, reduceIte, Nat.reduceSub, Nat.reduceAdd, List.cons_append, List.nil_append]); all_goals rfl)
            ·
              intro gh X K zq zc zq2 zc2 zb zv hK
              refine J.call fn69 rfl rfl fun w hH => (l01Mod_c (by omega) hH).mono ?_
              rintro _ w ⟨rfl, hH⟩
              refine ⟨_, rfl, fun a hF => J.of hF hH ?_⟩
              refine J.nilK ?_
              exact hK zq zc zq2 zc2 zb zv
            ·
              intro gh gh' h
              first | simp only [h 5 rfl, h 6 rfl] | rfl
            apply GJ.st1 10 rfl
            iterate 3 focus (intros; (conv => lhs; simp only [slotsZ, zlAt, vs0, resL, at2, eq_self, Nat.reduceEqDiff, reduceIte, Nat.reduceSub, Nat.reduceAdd, List.cons_append, List.nil_append]); all_goals rfl)
            ·
              intro gh X K zq zc zq2 zc2 zb zv hK
              refine J.call fn68 rfl rfl fun w hH => hH.lend (.s .z) fun Hl1 hle1 hA1 hB1 hH => hH.lend .z fun Hl2 hle2 hA2 hB2 hH => (l01Add_c ((own_terms wfO hA1).le hle2) (own_terms (by simp only [toS_ofS, addS_one]; exact gt2.wf (by omega)) hA2) (by rw [toS_ofS]; exact d2_sok hf9 hs hoc (by omega) k) (by simp only [toS_ofS, addS_one]; exact gt2.g) (by omega) (fld_bd _) (by have h1 := dT_len ad (toS (fm af k)) (tm f i).mono k; unfold dT at h1; rw [toS_len] at h1; simp only [toS_ofS, addS_one, ofS_len]; omega) hH).mono ?_
              rintro _ w ⟨qo101, co101, rfl, hH⟩
              replace hH := hB2 _ _ hH
              replace hH := hB1 _ _ hH
              refine ⟨_, rfl, fun a hF => J.of hF hH ?_⟩
              refine EJ.front .z ?_
              refine EJ.front (.s .z) ?_
              refine EJ.front (.s (.s .z)) ?_
              refine J.nilK ?_
              exact hK qo101 co101 zq2 zc2 zb zv
            ·
              intro gh gh' h
              refine ⟨?_, ?_⟩ <;> (first | simp only [h 5 rfl, h 6 rfl] | rfl)
            apply GJ.sn1 11 rfl
            iterate 3 focus (intros; (conv => lhs; simp only [slotsZ, zlAt, vs0, resL, at2, eq_self, Nat.reduceEqDiff, reduceIte, Nat.reduceSub, Nat.reduceAdd, List.cons_append, List.nil_append]); all_goals rfl)
            ·
              intro gh X K hK
              refine J.storeAll rfl rfl (by first | exact bytesC_one _ | exact intsC_one _ | exact Term.c_one _ | simp [Value.oneCell']) (by simpa [*] using sz32) (by simp [*]) At.z ?_
              refine J.nilK ?_
              exact hK
            ·
              intro gh gh' h
              first | simp only [h 5 rfl, h 6 rfl, h 9 rfl] | rfl
            apply GJ.close [0, 1, 2, 3, 4, 5, 6, 7, 8, 9, 10] [0, 1, 2, 3, 4, 5, 6, 7, 8, 9, 10, 11, 12, 13, 14, 15, 16, 17, 19, 20, 21, 22] foll0 rfl rfl rfl (by rfl)
            iterate 2 focus (intros; (conv => lhs; simp only [slotsZ, zlAt, vs0, resL, at2, eq_self, Nat.reduceEqDiff, reduceIte, Nat.reduceSub, Nat.reduceAdd, List.cons_append, List.nil_append]); all_goals rfl)
            intro gh
            generalize (gh 5).c = co97
            generalize (gh 5).q = qo97
            generalize (gh 6).c = co98
            generalize (gh 6).q = qo98
            generalize (gh 9).c = co101
            generalize (gh 9).q = qo101
            clear gh
            refine EJ.inN ?_
            refine EJ.thenN (hK12 ?_)
            refine CJ.region ?_
            refine J.p (PR.move rfl) rfl ?_
            refine J.p (PR.add rfl rfl (by first | exact nw _ (by omega) | rfl)) rfl ?_
            refine J.p (PR.assign rfl) rfl ?_
            refine J.nil ?_
            refine EJ.thenN ?_
            refine EJ.drop (.s (.s (.s (.s (.s (.s (.s (.s (.s (.s (.s .z))))))))))) ?_
            refine EJ.drop .z ?_
            refine EJ.drop .z ?_
            refine EJ.drop (.s (.s .z)) ?_
            refine EJ.drop (.s (.s .z)) ?_
            refine EJ.drop (.s (.s .z)) ?_
            refine EJ.drop (.s (.s .z)) ?_
            refine EJ.drop (.s (.s .z)) ?_
            refine EJ.drop (.s (.s .z)) ?_
            refine EJ.front (.s (.s (.s (.s (.s .z))))) ?_
            refine EJ.front (.s (.s (.s (.s (.s .z))))) ?_
            refine EJ.front (.s (.s (.s (.s (.s .z))))) ?_
            refine EJ.front (.s (.s (.s .z))) ?_
            refine EJ.front (.s (.s (.s (.s .z)))) ?_
            refine EJ.front (.s (.s (.s (.s (.s .z))))) ?_
            exact hAg1 (qo101, co101, k + 1) (by show k + 1 ≤ ad.length; omega) (by show ad.length - (k + 1) < ad.length - k; omega) 68 rfl rfl ⟨rfl, trivial⟩ rfl (by simp only [toS_ofS, addS_one]; rw [← acc_dP (ds := ad) (fs := af) (x := ((tm f i).mono, (tm f i).fac)) (k := k) hpos, fac_pos (sg_pos hn hd hxn (by omega) h79)]; rfl)
    ·
      refine CJ.exit ?_
      refine EJ.thenE ?_
      refine EJ.thenE ?_
      refine EJ.inE ?_
      refine EJ.inN ?_
      refine EJ.thenN (hK7 ?_)
      refine CJ.region ?_
      refine J.p (PR.move rfl) rfl ?_
      refine J.p (PR.add rfl rfl (by first | exact nw _ (by omega) | rfl)) rfl ?_
      refine J.p (PR.assign rfl) rfl ?_
      refine J.nil ?_
      refine EJ.thenN ?_
      refine EJ.drop .z ?_
      exact hAg0 (q1, c1, i + 1) (by show i + 1 ≤ f.length; omega) (by show f.length - (i + 1) < f.length - i; omega) 23 rfl rfl ⟨rfl, trivial⟩ rfl (by dsimp only; rw [dAll_take (by omega), ← dLk_8 hn hxe, show ad.length = k by omega])
  ·
    refine CJ.exit ?_
    refine EJ.thenE ?_
    refine EJ.thenE ?_
    refine EJ.inE ?_
    refine EJ.thenN (hK3 ?_)
    refine CJ.seq fun _ hK32 _ => ?_
    refine CJ.region ?_
    refine J.p (PR.loadAll rfl At.z (by simpa [*] using ag32)) rfl ?_
    refine J.storeAll rfl rfl (by first | exact bytesC_one _ | exact intsC_one _ | exact Term.c_one _ | simp [Value.oneCell']) (by simpa [*] using sz32) (by simp [*]) (.s (.s .z)) ?_
    refine J.nil ?_
    refine EJ.thenN (hK32 ?_)
    refine CJ.ret ?_
    refine EJ.ret1 rfl (Res.agg rfl (.s (.s .z)) (by simpa [*] using ag32)) fun w hH => ?_
    replace hH := hH.sublist (.cons _ (.cons_cons _ (.cons _ (.cons _ (.cons _ (List.Sublist.refl _))))))
    obtain rfl : i = f.length := by omega
    rw [List.take_length] at hH ⊢
    exact ⟨_, _, rfl, hH⟩
end Go.Proofs.YtbjhllmcnfncdaaDoor.G
namespace Go.Proofs.YtbjhllmcnfncdaaDoor.G
open Go Go.RowKit
namespace Xp
theorem u32 : Tryd.prog.underlying 32 = some (TypeDesc.struct #[{ name := "Terms", type := 30, offset := 0, embedded := false, tag := "", pkgPath := "", byteOffset := 0 }]) := by kernel_rfl
theorem u42 : Tryd.prog.underlying 42 = some (TypeDesc.slice 32) := by kernel_rfl
theorem sz32 : Size Tryd.prog 32 1 := by unfold Size; kernel_rfl
theorem ag32 : Agg Tryd.prog 32 1 := ⟨_, u32, rfl, by kernel_rfl⟩
theorem fn74 : Fn Tryd.prog 74 := ⟨_, Tryd.func74, by kernel_rfl, rfl⟩
theorem fn80 : Fn Tryd.prog 80 := ⟨_, Tryd.func80, by kernel_rfl, rfl⟩
end Xp
open Xp
def ClF (B : World) (H0 H : HP) (g : Nat) (cap : Array Value) (S : List Term → Prop) (p : List Term → Bool) : Prop := ∀ (H' : HP) (L : List SA) (w : World) (q : Option Addr) (c : Nat) (x : List Term), Le H H' → S x → Terms H' q x → Hp B H0 H' L w → Calls Tryd.prog g (#[] ++ [.agg [.slice q x.length c].toArray].toArray ++ cap) w fun e w' => e = .returned (.bool (p x)) ∧ Hp B H0 H' L w'
theorem ClF.le {B : World} {H0 H H' : HP} {g : Nat} {cap : Array Value} {S : List Term → Prop} {p : List Term → Bool} (h : ClF B H0 H g cap S p) (hle : Le H H') : ClF B H0 H' g cap S p := fun H2 L w q c x h2 => h H2 L w q c x (hle.trans h2)
def idxF (xs : List (List Term)) (p : List Term → Bool) : Int := if xs.any p then (xs.findIdx p : Int) else -1
theorem fm_eq {xs : List (List Term)} {j : Nat} (hj : j < xs.length) : xs[j] = fm xs j := by simp [fm, List.getD_eq_getElem?_getD, List.getElem?_eq_getElem hj]
theorem fm_mem {xs : List (List Term)} {j : Nat} (hj : j < xs.length) : fm xs j ∈ xs := by rw [← fm_eq hj]; exact List.getElem_mem hj
theorem idxF_hit {xs : List (List Term)} {p : List Term → Bool} {k : Nat} (hk : k < xs.length) (h : ∀ j, j < k → p (fm xs j) = false) (hp : p (fm xs k) = true) : idxF xs p = k := by
  unfold idxF
  have ha : xs.any p = true := List.any_eq_true.2 ⟨xs[k], List.getElem_mem hk, by rw [fm_eq]; exact hp⟩
  rw [if_pos ha]
  have : xs.findIdx p = k := by
    rw [List.findIdx_eq hk]
    exact ⟨by rw [fm_eq]; exact hp, fun j hj => by rw [fm_eq]; exact h j hj⟩
  rw [this]
theorem idxF_miss {xs : List (List Term)} {p : List Term → Bool} (h : ∀ j, j < xs.length → p (fm xs j) = false) : idxF xs p = -1 := by
  unfold idxF
  rw [if_neg]
  intro ha
  obtain ⟨x, hx, hp⟩ := List.any_eq_true.1 ha
  obtain ⟨j, hj, rfl⟩ := List.mem_iff_getElem.1 hx
  rw [fm_eq hj, h j hj] at hp
  cases hp
theorem idxF_ge (xs : List (List Term)) (p : List Term → Bool) : decide (idxF xs p ≥ 0) = xs.any p := by
  unfold idxF
  cases h : xs.any p with
  | true => rw [if_pos rfl]; exact decide_eq_true (by omega)
  | false => rw [if_neg (by simp)]; exact decide_eq_false (by omega)
def degOk (ds : List Int) (ts : List Term) (x : Int) : Bool := homog ds ts && (decide (degF ds ts = -1) || decide (degF ds ts = x))
def imOk (ds : List Int) (fs : List (List Term)) (i : Nat) : Bool := isForm ds (fm fs i) && degOk ds (fm fs i) (ds.getD i 0 + 1)
def imsOk (ds : List Int) (fs : List (List Term)) : Bool := (List.range fs.length).all (imOk ds fs)
def noD (ds : List Int) (fs : List (List Term)) : Bool := (List.range fs.length).all fun i => decide ((dS ds fs (toS (fm fs i))).length = 0)
def isAlg (ds : List Int) (fs : List (List Term)) : Bool := isDeg ds && decide (fs.length = ds.length) && imsOk ds fs && noD ds fs
theorem imsOk_bad {ds : List Int} {fs : List (List Term)} {i : Nat} (hi : i < fs.length) (h : imOk ds fs i = false) : imsOk ds fs = false := List.all_eq_false.2 ⟨i, by simpa using hi, by simp [h]⟩
theorem imsOk_good {ds : List Int} {fs : List (List Term)} (h : ∀ j, j < fs.length → imOk ds fs j = true) : imsOk ds fs = true := List.all_eq_true.2 fun j hj => h j (by simpa using hj)
theorem imsOk_at {ds : List Int} {fs : List (List Term)} (h : imsOk ds fs = true) {i : Nat} (hi : i < fs.length) : imOk ds fs i = true := List.all_eq_true.1 h i (by simpa using hi)
theorem noD_bad {ds : List Int} {fs : List (List Term)} {i : Nat} (hi : i < fs.length) (h : ¬ (dS ds fs (toS (fm fs i))).length = 0) : noD ds fs = false := List.all_eq_false.2 ⟨i, by simpa using hi, by simpa using h⟩
theorem noD_good {ds : List Int} {fs : List (List Term)} (h : ∀ j, j < fs.length → (dS ds fs (toS (fm fs j))).length = 0) : noD ds fs = true := List.all_eq_true.2 fun j hj => by simpa using h j (by simpa using hj)
theorem isMono_le {ds m : List Int} (h : isMono ds m = true) {j : Nat} (hj : j < 8) : m.getD j 0 ≤ most ds j := by
  unfold isMono at h
  simpa using List.all_eq_true.1 h j (by simpa using hj)
theorem isMono_pok {ds m : List Int} (h : isMono ds m = true) (hm : Mono m) : Pok 20 m := ⟨hm.len, fun j => by
  have b := hm.bd j
  rcases Nat.lt_or_ge j 8 with hj | hj
  · have := isMono_le h hj
    unfold most at this
    split at this
    · split at this <;> omega
    · omega
  · rw [getD_ge (by rw [hm.len]; omega)]
    omega⟩
theorem isMono_ex {ds m : List Int} (hd : ∀ j, 0 ≤ ds.getD j 0 ∧ ds.getD j 0 ≤ 12) (hn : ds.length ≤ 8) (h : isMono ds m = true) (hm : Mono m) : Ex ds m := ⟨fun i hi => by
    rcases Nat.lt_or_ge i 8 with hj | hj
    · have a := isMono_le h hj
      have b := (hm.bd i).1
      rw [most_ge (by omega)] at a
      omega
    · exact getD_ge (by rw [hm.len]; omega), fun i hi ho => by
    have a := isMono_le h (j := i) (by omega)
    rw [most_odd (by omega) ho (hd i).1] at a
    exact a⟩
theorem isForm_at {ds : List Int} {ts : List Term} (h : isForm ds ts = true) {i : Nat} (hi : i < ts.length) : goodAt ds ts i = true := by
  unfold isForm at h
  exact List.all_eq_true.1 (Bool.and_eq_true_iff.1 h).2 i (by simpa using hi)
theorem srt_of {s : Sm} : (∀ i, 0 < i → i < s.length → before (s.getD (i - 1) ([], 0)).1 (s.getD i ([], 0)).1 = true) → s.Pairwise fun x y => before x.1 y.1 = true := by
  induction s with
  | nil => intro _; exact List.Pairwise.nil
  | cons x s ih =>
    intro h
    have h2 := ih fun i h0 hi => by
      have := h (i + 1) (by omega) (by simp; omega)
      simp only [Nat.add_sub_cancel, List.getD_cons_succ] at this
      rw [show i = (i - 1) + 1 by omega, List.getD_cons_succ] at this
      rwa [show i - 1 + 1 = i by omega] at this
    refine List.pairwise_cons.2 ⟨fun y hy => ?_, h2⟩
    cases s with
    | nil => simp at hy
    | cons z s =>
      have hz : before x.1 z.1 = true := by simpa using h 1 (by omega) (by simp)
      rcases List.mem_cons.1 hy with rfl | hy
      · exact hz
      · exact before_tr hz ((List.pairwise_cons.1 h2).1 y hy)
theorem toS_getD {ts : List Term} {i : Nat} (hi : i < ts.length) : (toS ts).getD i ([], 0) = ((tm ts i).mono, (tm ts i).fac) := by
  simp [toS, tm, List.getD_eq_getElem?_getD, hi]
theorem isForm_sok {ds : List Int} {ts : List Term} (hw : Wfs ts) (h : isForm ds ts = true) : Sok 20 (toS ts) := by
  have hg : ∀ i, i < ts.length → isMono ds (tm ts i).mono = true ∧ (1 ≤ (tm ts i).fac ∧ (tm ts i).fac ≤ 10006) ∧ (i = 0 ∨ before (tm ts (i - 1)).mono (tm ts i).mono = true) := fun i hi => by
    have := isForm_at h hi
    unfold goodAt at this
    simpa [and_assoc] using this
  refine ⟨srt_of fun i h0 hi => ?_, fun x hx => ?_, fun x hx => ?_⟩
  · rw [toS_len] at hi
    rw [toS_getD hi, toS_getD (by omega)]
    exact (hg i hi).2.2.resolve_left (by omega)
  · obtain ⟨t, ht, rfl⟩ := toS_mem hx
    obtain ⟨i, hi, rfl⟩ := List.mem_iff_getElem.1 ht
    rw [tm_eq hi]
    exact isMono_pok (hg i hi).1 (hw _ (by rw [← tm_eq hi]; exact ht)).mono
  · obtain ⟨t, ht, rfl⟩ := toS_mem hx
    obtain ⟨i, hi, rfl⟩ := List.mem_iff_getElem.1 ht
    rw [tm_eq hi]
    exact (hg i hi).2.1
theorem isForm_kex {ds : List Int} {ts : List Term} (hd : ∀ j, 0 ≤ ds.getD j 0 ∧ ds.getD j 0 ≤ 12) (hn : ds.length ≤ 8) (hw : Wfs ts) (h : isForm ds ts = true) : KEx ds (toS ts) := fun x hx => by
  obtain ⟨t, ht, rfl⟩ := toS_mem hx
  obtain ⟨i, hi, rfl⟩ := List.mem_iff_getElem.1 ht
  have := isForm_at h hi
  unfold goodAt at this
  rw [tm_eq hi]
  exact isMono_ex hd hn (by simp at this; exact this.1.1) (hw _ (by rw [← tm_eq hi]; exact ht)).mono
theorem isForm_len4 {ds : List Int} {ts : List Term} (h : isForm ds ts = true) : ts.length ≤ 400 := by
  unfold isForm at h
  simpa using (Bool.and_eq_true_iff.1 h).1
theorem Wfss.fm {fs : List (List Term)} (h : Wfss fs) (i : Nat) : Wfs (G.fm fs i) := by
  rcases Nat.lt_or_ge i fs.length with hi | hi
  · exact h _ (fm_mem hi)
  · rw [G.fm, List.getD_eq_getElem?_getD, List.getElem?_eq_none hi]
    exact Wfs.nil
structure AlgOk (ds : List Int) (fs : List (List Term)) : Prop where
  hn : ds.length ≤ 8
  hd : ∀ j, 0 ≤ ds.getD j 0 ∧ ds.getD j 0 ≤ 12
  hl : fs.length = ds.length
  ok : ∀ i, i < fs.length → isForm ds (fm fs i) = true
  wf : Wfss fs
theorem AlgOk.fok {ds : List Int} {fs : List (List Term)} (h : AlgOk ds fs) : Fok 20 fs := fun i hi => ⟨isForm_sok (h.wf.fm i) (h.ok i hi), by have := isForm_len4 (h.ok i hi); omega⟩
theorem AlgOk.kex {ds : List Int} {fs : List (List Term)} (h : AlgOk ds fs) : ∀ i, i < fs.length → KEx ds (toS (G.fm fs i)) := fun i hi => isForm_kex h.hd h.hn (h.wf.fm i) (h.ok i hi)
theorem AlgOk.len {ds : List Int} {fs : List (List Term)} (h : AlgOk ds fs) : ∀ i, i < fs.length → (G.fm fs i).length ≤ 10000 := fun i hi => by have := isForm_len4 (h.ok i hi); omega
theorem AlgOk.of {ds : List Int} {fs : List (List Term)} (hD : isDeg ds = true) (hl : fs.length = ds.length) (hi : imsOk ds fs = true) (hw : Wfss fs) : AlgOk ds fs := ⟨isDeg_len hD, isDeg_bd hD, hl, fun i h => (Bool.and_eq_true_iff.1 (imsOk_at hi h)).1, hw⟩
theorem isAlg_ok {ds : List Int} {fs : List (List Term)} (h : isAlg ds fs = true) (hw : Wfss fs) : AlgOk ds fs := by
  unfold isAlg at h
  simp only [Bool.and_eq_true, decide_eq_true_eq] at h
  exact AlgOk.of h.1.1.1 h.1.1.2 h.1.2 hw
theorem degF_neg {ds : List Int} {ts : List Term} (hn : ds.length ≤ 8) (hd : ∀ j, 0 ≤ ds.getD j 0 ∧ ds.getD j 0 ≤ 12) (hw : Wfs ts) (hh : homog ds ts = true) : degF ds ts = -1 ↔ ¬ (0 < ts.length) := by
  unfold degF outAt
  rw [hh, if_pos rfl]
  by_cases e : ts.length = 0
  · rw [if_pos e]; omega
  · rw [if_neg e]
    have := wd_bd (i := 0) (ts := ts) hn hd (hw _ (by rw [← tm_eq (by omega)]; exact List.getElem_mem (by omega))).mono
    omega
set_option maxRecDepth 10000 in
theorem IndexFuncF_c {B : World} {H0 H : HP} {L : List SA} {w : World} {qxs : Option Addr} {cxs : Nat} {xs : List (List Term)} {gp : Nat} {capp : Array Value} {Sp : List Term → Prop} {p : List Term → Bool}  (hxs : Forms H qxs xs) (hgp : Fn Tryd.prog gp) (hp : ClF B H0 H gp capp Sp p) (hn : xs.length ≤ 9223372036854775807) (hS : ∀ i, i < xs.length → Sp (fm xs i)) (hH : Hp B H0 H L w) :
    Calls Tryd.prog 74 [.slice qxs xs.length cxs, .func (.func gp) #[] capp].toArray w fun e w' => e = .returned (.int .i64 (idxF xs p)) ∧ Hp B H0 H L w' := by
  refine CJ.enter Tryd.func74 rfl 19 rfl rfl [(0, .slice qxs xs.length cxs), (1, .func (.func gp) #[] capp)] rfl hH ?_
  clear hH
  refine CJ.seq fun _ hK1 _ => ?_
  refine CJ.region ?_
  refine J.p (PR.assign rfl) rfl ?_
  refine J.nil ?_
  refine EJ.thenN (hK1 ?_)
  refine CJ.seq fun _ hK2 _ => ?_
  refine CJ.seq fun _ hK3 _ => ?_
  refine CJ.region ?_
  refine J.p (PR.move rfl) rfl ?_
  refine J.p (PR.lenSlice u42 rfl rfl) rfl ?_
  refine J.p (PR.move rfl) rfl ?_
  refine J.nil ?_
  refine EJ.thenN (hK3 ?_)
  refine CJ.block ?_
  refine CJ.loopU (σ := Nat) (fun (k : Nat) => [(8, .int .i64 (k : Int))]) (fun (k : Nat) => H) (fun (k : Nat) => L) (fun (k : Nat) => k ≤ xs.length ∧ ∀ j, j < k → p (fm xs j) = false) (fun (k : Nat) => xs.length - k) 0 ⟨by omega, fun j hj => by omega⟩ ⟨rfl, trivial⟩ rfl rfl ?_
  rintro k hI _ hAg0
  have hk := hI.1
  refine CJ.seq fun _ hK4 _ => ?_
  refine CJ.region ?_
  refine J.p (PR.lss rfl rfl) rfl ?_
  refine J.nil ?_
  refine EJ.thenN (hK4 ?_)
  refine CJ.seq fun _ hK5 _ => ?_
  refine CJ.condD rfl (fun hc9 => ?_) (fun hc9 => ?_)
  ·
    refine CJ.skip ?_
    refine EJ.thenN (hK5 ?_)
    refine CJ.seq fun _ hK6 _ => ?_
    refine CJ.block ?_
    refine CJ.seq fun _ hK7 _ => ?_
    refine CJ.region ?_
    refine J.p (PR.move rfl) rfl ?_
    refine J.p (PR.assign rfl) rfl ?_
    refine J.nil ?_
    refine EJ.thenN (hK7 ?_)
    refine CJ.seq fun _ hK8 _ => ?_
    refine CJ.region ?_
    refine J.p (PR.move rfl) rfl ?_
    refine J.p (PR.move rfl) rfl ?_
    refine J.p (PR.move rfl) rfl ?_
    refine J.p (PR.idx1 u42 sz32 rfl rfl rfl (by omega) hxs.sm) rfl ?_
    obtain ⟨qe15, ce15, he15, le15, Fe15⟩ := hxs k (by omega)
    refine J.p (PR.loadHagg (cs := [_]) rfl (one_cell he15) (hxs.sm (i := k) (by omega)) ag32) rfl ?_
    refine J.callV hgp rfl rfl rfl fun w hH => (hp _ _ w _ _ _ (Le.refl _) (hS _ (by omega)) Fe15 hH).mono ?_
    rintro _ w ⟨rfl, hH⟩
    refine ⟨_, rfl, fun a hF => J.of hF hH ?_⟩
    refine J.nil ?_
    refine EJ.thenN (hK8 ?_)
    refine CJ.cond rfl (fun h16 => ?_) (fun h16 => ?_)
    ·
      refine CJ.seq fun _ hK9 _ => ?_
      refine CJ.region ?_
      refine J.p (PR.move rfl) rfl ?_
      refine J.p (PR.assign rfl) rfl ?_
      refine J.nil ?_
      refine EJ.thenN (hK9 ?_)
      refine CJ.ret ?_
      refine EJ.inR ?_
      refine EJ.thenR ?_
      refine EJ.thenR ?_
      refine EJ.inR ?_
      refine EJ.thenR ?_
      refine EJ.ret1 rfl (Res.tmp rfl) fun w hH => ?_
      exact ⟨ri (idxF_hit (by omega) hI.2 h16).symm, hH⟩
    ·
      refine CJ.skip ?_
      refine EJ.inN ?_
      refine EJ.thenN (hK6 ?_)
      refine CJ.region ?_
      refine J.p (PR.add rfl rfl (by first | exact nw _ (by omega) | rfl)) rfl ?_
      refine J.p (PR.move rfl) rfl ?_
      refine J.nil ?_
      refine EJ.thenN ?_
      exact hAg0 (k + 1) ⟨by omega, upto hI.2 h16⟩ (by omega) 12 rfl rfl ⟨rfl, trivial⟩ rfl rfl
  ·
    refine CJ.exit ?_
    refine EJ.thenE ?_
    refine EJ.thenE ?_
    refine EJ.inE ?_
    refine EJ.thenN (hK2 ?_)
    refine CJ.seq fun _ hK10 _ => ?_
    refine CJ.region ?_
    refine J.p (PR.assign rfl) rfl ?_
    refine J.nil ?_
    refine EJ.thenN (hK10 ?_)
    refine CJ.ret ?_
    refine EJ.ret1 rfl (Res.tmp rfl) fun w hH => ?_
    exact ⟨ri (idxF_miss (fun j hj => hI.2 j (by omega))).symm, hH⟩
set_option maxRecDepth 10000 in
theorem ContainsFuncF_c {B : World} {H0 H : HP} {L : List SA} {w : World} {qxs : Option Addr} {cxs : Nat} {xs : List (List Term)} {gp : Nat} {capp : Array Value} {Sp : List Term → Prop} {p : List Term → Bool}  (hxs : Forms H qxs xs) (hgp : Fn Tryd.prog gp) (hp : ClF B H0 H gp capp Sp p) (hn : xs.length ≤ 9223372036854775807) (hS : ∀ i, i < xs.length → Sp (fm xs i)) (hH : Hp B H0 H L w) :
    Calls Tryd.prog 46 [.slice qxs xs.length cxs, .func (.func gp) #[] capp].toArray w fun e w' => e = .returned (.bool (xs.any p)) ∧ Hp B H0 H L w' := by
  refine CJ.enter Tryd.func46 rfl 9 rfl rfl [(0, .slice qxs xs.length cxs), (1, .func (.func gp) #[] capp)] rfl hH ?_
  clear hH
  refine CJ.seq fun _ hK1 _ => ?_
  refine CJ.region ?_
  refine J.p (PR.assign rfl) rfl ?_
  refine J.nil ?_
  refine EJ.thenN (hK1 ?_)
  refine CJ.seq fun _ hK2 _ => ?_
  refine CJ.region ?_
  refine J.p (PR.move rfl) rfl ?_
  refine J.p (PR.move rfl) rfl ?_
  refine J.call fn74 rfl rfl fun w hH => (IndexFuncF_c hxs hgp hp (by omega) hS hH).mono ?_
  rintro _ w ⟨rfl, hH⟩
  refine ⟨_, rfl, fun a hF => J.of hF hH ?_⟩
  refine J.p (PR.geq rfl rfl) rfl ?_
  refine J.p (PR.assign rfl) rfl ?_
  refine J.nil ?_
  refine EJ.thenN (hK2 ?_)
  refine CJ.ret ?_
  refine EJ.ret1 rfl (Res.tmp rfl) fun w hH => ?_
  exact ⟨rb (idxF_ge xs p), hH⟩
set_option maxRecDepth 10000 in
theorem isOfDegree_c {B : World} {H0 H : HP} {L : List SA} {w : World} {qds : Option Addr} {cds : Nat} {ds : List Int} {qts : Option Addr} {cts : Nat} {ts : List Term} {x : Int}  (hds : Ints H qds ds) (hts : Terms H qts ts) (hn : ds.length ≤ 8) (hd : ∀ j, 0 ≤ ds.getD j 0 ∧ ds.getD j 0 ≤ 12) (hl : ts.length ≤ 9223372036854775807) (hH : Hp B H0 H L w) :
    Calls Tryd.prog 70 [.slice qds ds.length cds, .agg [.slice qts ts.length cts].toArray, .int .i64 x].toArray w fun e w' => e = .returned (.bool (degOk ds ts x)) ∧ Hp B H0 H L w' := by
  refine CJ.enter Tryd.func70 rfl 25 rfl rfl [(0, .slice qds ds.length cds), (1, .agg [.slice qts ts.length cts].toArray), (2, .int .i64 x)] rfl hH ?_
  clear hH
  refine CJ.seq fun _ hK1 _ => ?_
  refine CJ.region ?_
  refine J.box rfl rfl rfl fun g4 => ?_
  refine J.p (PR.assign rfl) rfl ?_
  refine J.nil ?_
  refine EJ.thenN (hK1 ?_)
  refine CJ.seq fun _ hK2 _ => ?_
  refine CJ.region ?_
  refine J.p (PR.move rfl) rfl ?_
  refine J.p (PR.loadAll rfl At.z (by simpa [*] using ag32)) rfl ?_
  refine J.call fn80 rfl rfl fun w hH => (degreeOf_c hds hts hn hd (by omega) hH).mono ?_
  rintro _ w ⟨rfl, hH⟩
  refine ⟨_, rfl, fun a hF => J.of hF hH ?_⟩
  refine J.p (PR.move rfl) rfl ?_
  refine J.p (PR.extract rfl rfl) rfl ?_
  refine J.p (PR.extract rfl rfl) rfl ?_
  refine J.p (PR.assign rfl) rfl ?_
  refine J.p (PR.assign rfl) rfl ?_
  refine J.nil ?_
  refine EJ.thenN (hK2 ?_)
  refine CJ.seq fun _ hK3 _ => ?_
  refine CJ.region ?_
  refine J.p (PR.move rfl) rfl ?_
  refine J.p (PR.move rfl) rfl ?_
  refine J.splitB (jd := 16) rfl (fun hg16 => ?_) (fun hg16 => ?_)
  ·
    try have hg16p := of_decide_eq_true hg16
    refine J.gy (PR.move rfl) rfl rfl rfl hg16 ?_
    refine J.gy (PR.eql rfl rfl) rfl rfl rfl hg16 ?_
    refine J.gy (PR.move rfl) rfl rfl rfl hg16 ?_
    refine J.splitB (jd := 19) rfl (fun hg19 => ?_) (fun hg19 => ?_)
    ·
      try have hg19p := of_decide_eq_true hg19
      refine J.gn rfl rfl rfl hg19 ?_
      refine J.gn rfl rfl rfl hg19 ?_
      refine J.gn rfl rfl rfl hg19 ?_
      refine J.gy (PR.pickT rfl hg19 rfl) rfl rfl rfl hg16 ?_
      refine J.p (PR.pickT rfl hg16 rfl) rfl ?_
      refine J.p (PR.assign rfl) rfl ?_
      refine J.nil ?_
      refine EJ.thenN (hK3 ?_)
      refine CJ.ret ?_
      refine EJ.ret1 rfl (Res.tmp rfl) fun w hH => ?_
      replace hH := hH.tail
      exact ⟨rb (by unfold degOk; rw [hg16, hg19]; rfl), hH⟩
    ·
      try have hg19p := of_decide_eq_false hg19
      refine J.gy (PR.move rfl) rfl rfl rfl hg19 ?_
      refine J.gy (PR.move rfl) rfl rfl rfl hg19 ?_
      refine J.gy (PR.eql rfl rfl) rfl rfl rfl hg19 ?_
      refine J.gy (PR.pickF rfl hg19 rfl) rfl rfl rfl hg16 ?_
      refine J.p (PR.pickT rfl hg16 rfl) rfl ?_
      refine J.p (PR.assign rfl) rfl ?_
      refine J.nil ?_
      refine EJ.thenN (hK3 ?_)
      refine CJ.ret ?_
      refine EJ.ret1 rfl (Res.tmp rfl) fun w hH => ?_
      replace hH := hH.tail
      exact ⟨rb (by unfold degOk; rw [hg16, hg19]; simp), hH⟩
  ·
    try have hg16p := of_decide_eq_false hg16
    refine J.gn rfl rfl rfl hg16 ?_
    refine J.gn rfl rfl rfl hg16 ?_
    refine J.gn rfl rfl rfl hg16 ?_
    refine J.gu rfl rfl rfl ?_
    refine J.gu rfl rfl rfl ?_
    refine J.gu rfl rfl rfl ?_
    refine J.gn rfl rfl rfl hg16 ?_
    refine J.p (PR.pickF rfl hg16 rfl) rfl ?_
    refine J.p (PR.assign rfl) rfl ?_
    refine J.nil ?_
    refine EJ.thenN (hK3 ?_)
    refine CJ.ret ?_
    refine EJ.ret1 rfl (Res.tmp rfl) fun w hH => ?_
    replace hH := hH.tail
    exact ⟨rb (by unfold degOk; rw [hg16]; rfl), hH⟩
end Go.Proofs.YtbjhllmcnfncdaaDoor.G
namespace Go.Proofs.YtbjhllmcnfncdaaDoor.G
open Go Go.RowKit
namespace Xq
theorem u108 : Tryd.prog.underlying 108 = some (TypeDesc.map 88 2) := by kernel_rfl
theorem u2 : Tryd.prog.underlying 2 = some (TypeDesc.int .i64) := by kernel_rfl
theorem u22 : Tryd.prog.underlying 22 = some (TypeDesc.slice 2) := by kernel_rfl
theorem u30 : Tryd.prog.underlying 30 = some (TypeDesc.slice 66) := by kernel_rfl
theorem u32 : Tryd.prog.underlying 32 = some (TypeDesc.struct #[{ name := "Terms", type := 30, offset := 0, embedded := false, tag := "", pkgPath := "", byteOffset := 0 }]) := by kernel_rfl
theorem u42 : Tryd.prog.underlying 42 = some (TypeDesc.slice 32) := by kernel_rfl
theorem u44 : Tryd.prog.underlying 44 = some (TypeDesc.struct #[{ name := "Degrees", type := 22, offset := 0, embedded := false, tag := "", pkgPath := "", byteOffset := 0 }, { name := "Images", type := 42, offset := 1, embedded := false, tag := "", pkgPath := "", byteOffset := 24 }]) := by kernel_rfl
theorem sz2 : Size Tryd.prog 2 1 := by unfold Size; kernel_rfl
theorem sz22 : Size Tryd.prog 22 1 := by unfold Size; kernel_rfl
theorem sz30 : Size Tryd.prog 30 1 := by unfold Size; kernel_rfl
theorem sz32 : Size Tryd.prog 32 1 := by unfold Size; kernel_rfl
theorem sz42 : Size Tryd.prog 42 1 := by unfold Size; kernel_rfl
theorem ze32 : Zero Tryd.prog 32 [.slice none 0 0] := by unfold Zero; kernel_rfl
theorem pl2 : Plain Tryd.prog 2 := ⟨_, u2, rfl⟩
theorem pl22 : Plain Tryd.prog 22 := ⟨_, u22, rfl⟩
theorem pl30 : Plain Tryd.prog 30 := ⟨_, u30, rfl⟩
theorem pl42 : Plain Tryd.prog 42 := ⟨_, u42, rfl⟩
theorem ag32 : Agg Tryd.prog 32 1 := ⟨_, u32, rfl, by kernel_rfl⟩
theorem ag44 : Agg Tryd.prog 44 2 := ⟨_, u44, rfl, by kernel_rfl⟩
theorem fn32 : Fn Tryd.prog 32 := ⟨_, Tryd.func32, by kernel_rfl, rfl⟩
theorem fn33 : Fn Tryd.prog 33 := ⟨_, Tryd.func33, by kernel_rfl, rfl⟩
theorem fn37 : Fn Tryd.prog 37 := ⟨_, Tryd.func37, by kernel_rfl, rfl⟩
theorem fn38 : Fn Tryd.prog 38 := ⟨_, Tryd.func38, by kernel_rfl, rfl⟩
theorem fn43 : Fn Tryd.prog 43 := ⟨_, Tryd.func43, by kernel_rfl, rfl⟩
theorem fn44 : Fn Tryd.prog 44 := ⟨_, Tryd.func44, by kernel_rfl, rfl⟩
theorem fn46 : Fn Tryd.prog 46 := ⟨_, Tryd.func46, by kernel_rfl, rfl⟩
theorem fn70 : Fn Tryd.prog 70 := ⟨_, Tryd.func70, by kernel_rfl, rfl⟩
theorem fn71 : Fn Tryd.prog 71 := ⟨_, Tryd.func71, by kernel_rfl, rfl⟩
theorem fn72 : Fn Tryd.prog 72 := ⟨_, Tryd.func72, by kernel_rfl, rfl⟩
theorem fn73 : Fn Tryd.prog 73 := ⟨_, Tryd.func73, by kernel_rfl, rfl⟩
theorem foll0 : Tryd.prog.follows .mixedOrders = true := by kernel_rfl
end Xq
open Xq
theorem imOk_yes {ds : List Int} {fs : List (List Term)} {i : Nat} (h1 : isForm ds (fm fs i) = true) (h2 : homog ds (fm fs i) = true) (h3 : degF ds (fm fs i) = -1 ∨ degF ds (fm fs i) = ds.getD i 0 + 1) : imOk ds fs i = true := by
  unfold imOk degOk
  rw [h1, h2]
  rcases h3 with h | h <;> rw [decide_eq_true h] <;> simp
theorem imOk_no1 {ds : List Int} {fs : List (List Term)} {i : Nat} (h1 : isForm ds (fm fs i) = false) : imOk ds fs i = false := by unfold imOk; rw [h1]; rfl
theorem imOk_no2 {ds : List Int} {fs : List (List Term)} {i : Nat} (h1 : homog ds (fm fs i) = false) : imOk ds fs i = false := by unfold imOk degOk; rw [h1]; simp
theorem imOk_no3 {ds : List Int} {fs : List (List Term)} {i : Nat} (h1 : ¬ degF ds (fm fs i) = -1) (h2 : ¬ degF ds (fm fs i) = ds.getD i 0 + 1) : imOk ds fs i = false := by unfold imOk degOk; rw [decide_eq_false h1, decide_eq_false h2]; simp
set_option maxHeartbeats 4000000 in
set_option maxRecDepth 10000 in
theorem l02Is_c {B : World} {H0 H : HP} {L : List SA} {w : World} {qad qaf : Option Addr} {cad caf : Nat} {ad : List Int} {af : List (List Term)}  (had : Ints H qad ad) (haf : Forms H qaf af) (hn8 : ad.length ≤ 1048576) (hn9 : af.length ≤ 1048576) (hl9 : ∀ i, i < af.length → (fm af i).length ≤ 1048576) (hH : Hp B H0 H L w) :
    Calls Tryd.prog 26 [.agg [.slice qad ad.length cad, .slice qaf af.length caf].toArray].toArray w fun e w' => e = .returned (.bool (isAlg ad af)) ∧ Hp B H0 H L w' := by
  refine CJ.enter Tryd.func26 rfl 86 rfl rfl [(0, .agg [.slice qad ad.length cad, .slice qaf af.length caf].toArray)] rfl hH ?_
  clear hH
  refine CJ.seq fun _ hK1 _ => ?_
  refine CJ.region ?_
  refine J.box rfl rfl rfl fun g1 => ?_
  refine J.p (PR.assign rfl) rfl ?_
  refine J.nil ?_
  refine EJ.thenN (hK1 ?_)
  refine CJ.seq fun _ hK2 _ => ?_
  refine CJ.seq fun _ hK3 _ => ?_
  refine CJ.region ?_
  refine J.p (PR.fldA u44 rfl sz22 rfl) rfl ?_
  refine J.p (PR.load rfl At.z rfl pl22) rfl ?_
  refine J.call fn32 rfl rfl fun w hH => (l01Degrees_c had (by omega) hH).mono ?_
  rintro _ w ⟨rfl, hH⟩
  refine ⟨_, rfl, fun a hF => J.of hF hH ?_⟩
  refine J.p (PR.not rfl) rfl ?_
  refine J.p (PR.move rfl) rfl ?_
  refine J.splitB (jd := 11) rfl (fun hg11 => ?_) (fun hg11 => ?_)
  ·
    try have hg11p := of_decide_eq_true hg11
    refine J.gn rfl rfl rfl hg11 ?_
    refine J.gn rfl rfl rfl hg11 ?_
    refine J.gn rfl rfl rfl hg11 ?_
    refine J.gn rfl rfl rfl hg11 ?_
    refine J.gn rfl rfl rfl hg11 ?_
    refine J.gn rfl rfl rfl hg11 ?_
    refine J.gn rfl rfl rfl hg11 ?_
    refine J.p (PR.pickT rfl hg11 rfl) rfl ?_
    refine J.nil ?_
    refine EJ.thenN (hK3 ?_)
    refine CJ.condT rfl ?_
    refine CJ.seq fun _ hK4 _ => ?_
    refine CJ.region ?_
    refine J.p (PR.assign rfl) rfl ?_
    refine J.nil ?_
    refine EJ.thenN (hK4 ?_)
    refine CJ.ret ?_
    refine EJ.thenR ?_
    refine EJ.ret1 rfl (Res.tmp rfl) fun w hH => ?_
    replace hH := hH.tail
    exact ⟨rb (by unfold isAlg; rw [show isDeg ad = false by simpa using hg11]; rfl), hH⟩
  ·
    try have hg11p := of_decide_eq_false hg11
    refine J.gy (PR.fldA u44 rfl sz42 rfl) rfl rfl rfl hg11 ?_
    refine J.gy (PR.load rfl At.z rfl pl42) rfl rfl rfl hg11 ?_
    refine J.gy (PR.lenSlice u42 rfl rfl) rfl rfl rfl hg11 ?_
    refine J.gy (PR.fldA u44 rfl sz22 rfl) rfl rfl rfl hg11 ?_
    refine J.gy (PR.load rfl At.z rfl pl22) rfl rfl rfl hg11 ?_
    refine J.gy (PR.lenSlice u22 rfl rfl) rfl rfl rfl hg11 ?_
    refine J.gy (PR.neq rfl rfl) rfl rfl rfl hg11 ?_
    refine J.p (PR.pickF rfl hg11 rfl) rfl ?_
    refine J.nil ?_
    refine EJ.thenN (hK3 ?_)
    refine CJ.condD rfl (fun hc19 => ?_) (fun hc19 => ?_)
    ·
      refine CJ.seq fun _ hK5 _ => ?_
      refine CJ.region ?_
      refine J.p (PR.assign rfl) rfl ?_
      refine J.nil ?_
      refine EJ.thenN (hK5 ?_)
      refine CJ.ret ?_
      refine EJ.thenR ?_
      refine EJ.ret1 rfl (Res.tmp rfl) fun w hH => ?_
      replace hH := hH.tail
      exact ⟨rb (by unfold isAlg; rw [decide_eq_false (show ¬ af.length = ad.length by omega)]; simp), hH⟩
    ·
      have hD : isDeg ad = true := by simpa using hg11
      have hn := isDeg_len hD
      have hd := isDeg_bd hD
      have hlen : af.length = ad.length := by omega
      have hpos9 : ∀ j, j < ad.length → 0 ≤ ad.getD j 0 := fun j _ => (hd j).1
      refine CJ.skip ?_
      refine EJ.thenN (hK2 ?_)
      refine CJ.seq fun _ hK6 _ => ?_
      refine CJ.seq fun _ hK7 _ => ?_
      refine CJ.region ?_
      refine J.p (PR.assign rfl) rfl ?_
      refine J.nil ?_
      refine EJ.thenN (hK7 ?_)
      refine CJ.block ?_
      refine CJ.loopU (σ := Nat) (fun (i : Nat) => [(3, .int .i64 (i : Int))]) (fun (i : Nat) => H) (fun (i : Nat) => obj g1 (.cells [.slice qad ad.length cad, .slice qaf af.length caf].toArray 44 (0, 0)) :: L) (fun (i : Nat) => i ≤ af.length ∧ ∀ j, j < i → imOk ad af j = true) (fun (i : Nat) => af.length - i) 0 ⟨by omega, fun j hj => by omega⟩ ⟨rfl, trivial⟩ rfl rfl ?_
      rintro i ⟨hi, hI⟩ _ hAg0
      refine CJ.seq fun _ hK8 _ => ?_
      refine CJ.seq fun _ hK9 _ => ?_
      refine CJ.region ?_
      refine J.p (PR.move rfl) rfl ?_
      refine J.p (PR.fldA u44 rfl sz42 rfl) rfl ?_
      refine J.p (PR.load rfl At.z rfl pl42) rfl ?_
      refine J.p (PR.lenSlice u42 rfl rfl) rfl ?_
      refine J.p (PR.lss rfl rfl) rfl ?_
      refine J.nil ?_
      refine EJ.thenN (hK9 ?_)
      refine CJ.condD rfl (fun hc24 => ?_) (fun hc24 => ?_)
      ·
        have hl0 := hl9 i (by omega)
        have hdi := hd i
        refine CJ.skip ?_
        refine EJ.thenN (hK8 ?_)
        refine CJ.seq fun _ hK10 _ => ?_
        refine CJ.block ?_
        refine CJ.seq fun _ hK11 _ => ?_
        refine CJ.seq fun _ hK12 _ => ?_
        refine CJ.head [[], [0], [], [2], [], [3, 4], [5]] (by kernel_rfl) ?_
        refine HJ.op (fun gh => PR.fldA u44 rfl sz22 rfl) ?_
        refine HJ.op (fun gh => PR.load rfl At.z rfl pl22) ?_
        refine HJ.op (fun gh => PR.fldA u44 rfl sz42 rfl) ?_
        refine HJ.op (fun gh => PR.load rfl At.z rfl pl42) ?_
        refine HJ.op (fun gh => PR.move rfl) ?_
        refine HJ.op (fun gh => PR.idx1 u42 sz32 rfl rfl rfl (by omega) haf.sm) ?_
        obtain ⟨qe33, ce33, he33, le33, Fe33⟩ := haf i (by omega)
        refine HJ.op (fun gh => PR.loadHagg (cs := [_]) rfl (one_cell he33) (haf.sm (i := i) (by omega)) ag32) ?_
        refine HJ.close 7 1 foll0 (by kernel_rfl) rfl rfl fun gh => ?_
        refine J.conv (us' := (27, _) :: (28, _) :: (29, _) :: (30, _) :: (31, _) :: (32, _) :: (33, _) :: _) (L' := _) rfl rfl ?_
        refine J.call fn33 rfl rfl fun w hH => (l01Is_c had Fe33 (by omega) hpos9 (by omega) hH).mono ?_
        rintro _ w ⟨rfl, hH⟩
        refine ⟨_, rfl, fun a hF => J.of hF hH ?_⟩
        refine J.nil ?_
        refine EJ.still ?_
        refine JS.op (PR.not rfl) rfl ?_
        refine JS.nil ?_
        refine EJ.thenN (hK12 ?_)
        refine CJ.cond rfl (fun h35 => ?_) (fun h35 => ?_)
        ·
          refine CJ.seq fun _ hK13 _ => ?_
          refine CJ.region ?_
          refine J.p (PR.assign rfl) rfl ?_
          refine J.nil ?_
          refine EJ.thenN (hK13 ?_)
          refine CJ.ret ?_
          refine EJ.thenR ?_
          refine EJ.inR ?_
          refine EJ.thenR ?_
          refine EJ.thenR ?_
          refine EJ.inR ?_
          refine EJ.thenR ?_
          refine EJ.ret1 rfl (Res.tmp rfl) fun w hH => ?_
          replace hH := hH.tail
          exact ⟨rb (by unfold isAlg; rw [imsOk_bad (i := i) (by omega) (imOk_no1 (by simpa using h35))]; simp), hH⟩
        ·
          have hfo : isForm ad (fm af i) = true := by simpa using h35
          refine CJ.skip ?_
          refine EJ.thenN (hK11 ?_)
          refine CJ.seq fun _ hK14 _ => ?_
          refine CJ.head [[], [0], [], [2], [], [3, 4], [5]] (by kernel_rfl) ?_
          refine HJ.op (fun gh => PR.fldA u44 rfl sz22 rfl) ?_
          refine HJ.op (fun gh => PR.load rfl At.z rfl pl22) ?_
          refine HJ.op (fun gh => PR.fldA u44 rfl sz42 rfl) ?_
          refine HJ.op (fun gh => PR.load rfl At.z rfl pl42) ?_
          refine HJ.op (fun gh => PR.move rfl) ?_
          refine HJ.op (fun gh => PR.idx1 u42 sz32 rfl rfl rfl (by omega) haf.sm) ?_
          obtain ⟨qe43, ce43, he43, le43, Fe43⟩ := haf i (by omega)
          refine HJ.op (fun gh => PR.loadHagg (cs := [_]) rfl (one_cell he43) (haf.sm (i := i) (by omega)) ag32) ?_
          refine HJ.close 7 1 foll0 (by kernel_rfl) rfl rfl fun gh => ?_
          refine J.conv (us' := (37, _) :: (38, _) :: (39, _) :: (40, _) :: (41, _) :: (42, _) :: (43, _) :: _) (L' := _) rfl rfl ?_
          refine J.call fn43 rfl rfl fun w hH => (l01Degree_c had Fe43 hn hd (by omega) hH).mono ?_
          rintro _ w ⟨rfl, hH⟩
          refine ⟨_, rfl, fun a hF => J.of hF hH ?_⟩
          refine J.nil ?_
          refine EJ.still ?_
          refine JS.op (PR.move rfl) rfl ?_
          refine JS.op (PR.extract rfl rfl) rfl ?_
          refine JS.op (PR.extract rfl rfl) rfl ?_
          refine JS.op (PR.assign rfl) rfl ?_
          refine JS.op (PR.assign rfl) rfl ?_
          refine JS.nil ?_
          refine EJ.thenN (hK14 ?_)
          refine CJ.seq fun _ hK15 _ => ?_
          refine CJ.region ?_
          refine J.p (PR.move rfl) rfl ?_
          refine J.p (PR.not rfl) rfl ?_
          refine J.p (PR.move rfl) rfl ?_
          refine J.splitB (jd := 49) rfl (fun h49 => ?_) (fun h49 => ?_)
          ·
            try have h49p := of_decide_eq_true h49
            refine J.gn rfl rfl rfl h49 ?_
            refine J.gn rfl rfl rfl h49 ?_
            refine J.gn rfl rfl rfl h49 ?_
            refine J.gn rfl rfl rfl h49 ?_
            refine J.gn rfl rfl rfl h49 ?_
            refine J.gn rfl rfl rfl h49 ?_
            refine J.gn rfl rfl rfl h49 ?_
            refine J.gn rfl rfl rfl h49 ?_
            refine J.gn rfl rfl rfl h49 ?_
            refine J.gu rfl rfl rfl ?_
            refine J.gu rfl rfl rfl ?_
            refine J.gu rfl rfl rfl ?_
            refine J.gu rfl rfl rfl ?_
            refine J.gu rfl rfl rfl ?_
            refine J.gu rfl rfl rfl ?_
            refine J.gu rfl rfl rfl ?_
            refine J.gu rfl rfl rfl ?_
            refine J.gn rfl rfl rfl h49 ?_
            refine J.p (PR.pickT rfl h49 rfl) rfl ?_
            refine J.nil ?_
            refine EJ.thenN (hK15 ?_)
            refine CJ.condT rfl ?_
            refine CJ.seq fun _ hK16 _ => ?_
            refine CJ.region ?_
            refine J.p (PR.assign rfl) rfl ?_
            refine J.nil ?_
            refine EJ.thenN (hK16 ?_)
            refine CJ.ret ?_
            refine EJ.inR ?_
            refine EJ.thenR ?_
            refine EJ.thenR ?_
            refine EJ.inR ?_
            refine EJ.thenR ?_
            refine EJ.ret1 rfl (Res.tmp rfl) fun w hH => ?_
            replace hH := hH.tail
            exact ⟨rb (by unfold isAlg; rw [imsOk_bad (i := i) (by omega) (imOk_no2 (by simpa using h49))]; simp), hH⟩
          ·
            try have h49p := of_decide_eq_false h49
            refine J.gy (PR.fldA u44 rfl sz42 rfl) rfl rfl rfl h49 ?_
            refine J.gy (PR.load rfl At.z rfl pl42) rfl rfl rfl h49 ?_
            refine J.gy (PR.move rfl) rfl rfl rfl h49 ?_
            refine J.gy (PR.idx1 u42 sz32 rfl rfl rfl (by omega) haf.sm) rfl rfl rfl h49 ?_
            refine J.gy (PR.fldP u32 rfl sz30 rfl (haf.sm (i := i) (by omega))) rfl rfl rfl h49 ?_
            obtain ⟨qe55, ce55, he55, le55, Fe55⟩ := haf i (by omega)
            refine J.gy (PR.loadH rfl he55 pl30) rfl rfl rfl h49 ?_
            refine J.gy (PR.lenSlice u30 rfl rfl) rfl rfl rfl h49 ?_
            refine J.gy (PR.gtr rfl rfl) rfl rfl rfl h49 ?_
            refine J.gy (PR.move rfl) rfl rfl rfl h49 ?_
            refine J.splitB (jd := 58) rfl (fun h58 => ?_) (fun h58 => ?_)
            ·
              try have h58p := of_decide_eq_true h58
              refine J.gy (PR.move rfl) rfl rfl rfl h58 ?_
              refine J.gy (PR.fldA u44 rfl sz22 rfl) rfl rfl rfl h58 ?_
              refine J.gy (PR.load rfl At.z rfl pl22) rfl rfl rfl h58 ?_
              refine J.gy (PR.move rfl) rfl rfl rfl h58 ?_
              refine J.gy (PR.idx1 u22 sz2 rfl rfl rfl (by omega) had.sm) rfl rfl rfl h58 ?_
              refine J.gy (PR.loadH rfl (had _ (by omega)) pl2) rfl rfl rfl h58 ?_
              refine J.gy (PR.add rfl rfl (by first | exact nw _ (by omega) | rfl)) rfl rfl rfl h58 ?_
              refine J.gy (PR.neq rfl rfl) rfl rfl rfl h58 ?_
              refine J.gy (PR.pickT rfl h58 rfl) rfl rfl rfl h49 ?_
              refine J.p (PR.pickF rfl h49 rfl) rfl ?_
              refine J.nil ?_
              refine EJ.thenN (hK15 ?_)
              refine CJ.condD rfl (fun h68 => ?_) (fun h68 => ?_)
              ·
                refine CJ.seq fun _ hK17 _ => ?_
                refine CJ.region ?_
                refine J.p (PR.assign rfl) rfl ?_
                refine J.nil ?_
                refine EJ.thenN (hK17 ?_)
                refine CJ.ret ?_
                refine EJ.inR ?_
                refine EJ.thenR ?_
                refine EJ.thenR ?_
                refine EJ.inR ?_
                refine EJ.thenR ?_
                refine EJ.ret1 rfl (Res.tmp rfl) fun w hH => ?_
                replace hH := hH.tail
                exact ⟨rb (by unfold isAlg; rw [imsOk_bad (i := i) (by omega) (imOk_no3 (fun e => (degF_neg hn hd (haf.wfss.fm i) (by simpa using h49)).1 e (by omega)) h68)]; simp), hH⟩
              ·
                refine CJ.skip ?_
                refine EJ.inN ?_
                refine EJ.thenN (hK10 ?_)
                refine CJ.region ?_
                refine J.p (PR.move rfl) rfl ?_
                refine J.p (PR.add rfl rfl (by first | exact nw _ (by omega) | rfl)) rfl ?_
                refine J.p (PR.assign rfl) rfl ?_
                refine J.nil ?_
                refine EJ.thenN ?_
                exact hAg0 (i + 1) ⟨by omega, upto hI (imOk_yes hfo (by simpa using h49) (.inr (Decidable.not_not.1 h68)))⟩ (by omega) 53 rfl rfl ⟨rfl, trivial⟩ rfl rfl
            ·
              try have h58p := of_decide_eq_false h58
              refine J.gn rfl rfl rfl h58 ?_
              refine J.gn rfl rfl rfl h58 ?_
              refine J.gn rfl rfl rfl h58 ?_
              refine J.gn rfl rfl rfl h58 ?_
              refine J.gn rfl rfl rfl h58 ?_
              refine J.gn rfl rfl rfl h58 ?_
              refine J.gn rfl rfl rfl h58 ?_
              refine J.gn rfl rfl rfl h58 ?_
              refine J.gy (PR.pickF rfl h58 rfl) rfl rfl rfl h49 ?_
              refine J.p (PR.pickF rfl h49 rfl) rfl ?_
              refine J.nil ?_
              refine EJ.thenN (hK15 ?_)
              refine CJ.condF rfl ?_
              refine CJ.skip ?_
              refine EJ.inN ?_
              refine EJ.thenN (hK10 ?_)
              refine CJ.region ?_
              refine J.p (PR.move rfl) rfl ?_
              refine J.p (PR.add rfl rfl (by first | exact nw _ (by omega) | rfl)) rfl ?_
              refine J.p (PR.assign rfl) rfl ?_
              refine J.nil ?_
              refine EJ.thenN ?_
              exact hAg0 (i + 1) ⟨by omega, upto hI (imOk_yes hfo (by simpa using h49) (.inl ((degF_neg hn hd (haf.wfss.fm i) (by simpa using h49)).2 (by omega))))⟩ (by omega) 53 rfl rfl ⟨rfl, trivial⟩ rfl rfl
      ·
        have hM9 := imsOk_good (ds := ad) (fs := af) (fun j hj => hI j (by omega))
        have hA := AlgOk.of hD hlen hM9 haf.wfss
        refine CJ.exit ?_
        refine EJ.thenE ?_
        refine EJ.thenE ?_
        refine EJ.inE ?_
        refine EJ.thenN (hK6 ?_)
        refine CJ.seq fun _ hK18 _ => ?_
        refine CJ.seq fun _ hK19 _ => ?_
        refine CJ.region ?_
        refine J.p (PR.assign rfl) rfl ?_
        refine J.nil ?_
        refine EJ.thenN (hK19 ?_)
        refine CJ.block ?_
        refine CJ.loopU (σ := Nat) (fun (k : Nat) => [(6, .int .i64 (k : Int))]) (fun (k : Nat) => H) (fun (k : Nat) => obj g1 (.cells [.slice qad ad.length cad, .slice qaf af.length caf].toArray 44 (0, 0)) :: L) (fun (k : Nat) => k ≤ af.length ∧ ∀ j, j < k → (dS ad af (toS (fm af j))).length = 0) (fun (k : Nat) => af.length - k) 0 ⟨by omega, fun j hj => by omega⟩ ⟨rfl, trivial⟩ rfl rfl ?_
        rintro k ⟨hk, hJ⟩ _ hAg1
        refine CJ.seq fun _ hK20 _ => ?_
        refine CJ.seq fun _ hK21 _ => ?_
        refine CJ.region ?_
        refine J.p (PR.move rfl) rfl ?_
        refine J.p (PR.fldA u44 rfl sz42 rfl) rfl ?_
        refine J.p (PR.load rfl At.z rfl pl42) rfl ?_
        refine J.p (PR.lenSlice u42 rfl rfl) rfl ?_
        refine J.p (PR.lss rfl rfl) rfl ?_
        refine J.nil ?_
        refine EJ.thenN (hK21 ?_)
        refine CJ.condD rfl (fun h73 => ?_) (fun h73 => ?_)
        ·
          have hkl : k < af.length := by omega
          refine CJ.skip ?_
          refine EJ.thenN (hK20 ?_)
          refine CJ.seq fun _ hK22 _ => ?_
          refine CJ.block ?_
          refine CJ.seq fun _ hK23 _ => ?_
          refine CJ.head [[], [], [1], [], [2, 3], [4]] (by kernel_rfl) ?_
          refine HJ.op (fun gh => PR.loadAll rfl At.z (by simpa [*] using ag44)) ?_
          refine HJ.op (fun gh => PR.fldA u44 rfl sz42 rfl) ?_
          refine HJ.op (fun gh => PR.load rfl At.z rfl pl42) ?_
          refine HJ.op (fun gh => PR.move rfl) ?_
          refine HJ.op (fun gh => PR.idx1 u42 sz32 rfl rfl rfl (by omega) haf.sm) ?_
          obtain ⟨qe81, ce81, he81, le81, Fe81⟩ := haf k (by omega)
          refine HJ.op (fun gh => PR.loadHagg (cs := [_]) rfl (one_cell he81) (haf.sm (i := k) (by omega)) ag32) ?_
          refine HJ.close 6 1 foll0 (by kernel_rfl) rfl rfl fun gh => ?_
          refine J.conv (us' := (76, _) :: (77, _) :: (78, _) :: (79, _) :: (80, _) :: (81, _) :: _) (L' := _) rfl rfl ?_
          refine J.call fn44 rfl rfl fun w hH => (l02D_c had haf Fe81 hn hd hA.fok hA.hl hA.kex (hA.fok k hkl).1 (hA.kex k hkl) (by omega) hA.len (hA.len k hkl) hH).mono ?_
          rintro _ w ⟨qo82, co82, rfl, hH⟩
          refine ⟨_, rfl, fun a hF => J.of hF hH ?_⟩
          refine J.nil ?_
          refine EJ.still ?_
          refine JS.op (PR.fieldV u32 rfl pl30 rfl rfl) rfl ?_
          refine JS.op (PR.lenSlice u30 rfl rfl) rfl ?_
          refine JS.op (PR.gtr rfl rfl) rfl ?_
          refine JS.nil ?_
          refine EJ.thenN (hK23 ?_)
          refine CJ.condD rfl (fun h85 => ?_) (fun h85 => ?_)
          ·
            refine CJ.seq fun _ hK24 _ => ?_
            refine CJ.region ?_
            refine J.p (PR.assign rfl) rfl ?_
            refine J.nil ?_
            refine EJ.thenN (hK24 ?_)
            refine CJ.ret ?_
            refine EJ.inR ?_
            refine EJ.thenR ?_
            refine EJ.thenR ?_
            refine EJ.inR ?_
            refine EJ.thenR ?_
            refine EJ.ret1 rfl (Res.tmp rfl) fun w hH => ?_
            replace hH := hH.tail
            replace hH := hH.tail
            exact ⟨rb (by unfold isAlg; rw [noD_bad (i := k) (by omega) (by rw [ofS_len] at h85; omega)]; simp), hH⟩
          ·
            refine CJ.skip ?_
            refine EJ.inN ?_
            refine EJ.thenN (hK22 ?_)
            refine CJ.region ?_
            refine J.p (PR.move rfl) rfl ?_
            refine J.p (PR.add rfl rfl (by first | exact nw _ (by omega) | rfl)) rfl ?_
            refine J.p (PR.assign rfl) rfl ?_
            refine J.nil ?_
            refine EJ.thenN ?_
            refine EJ.drop .z ?_
            exact hAg1 (k + 1) ⟨by omega, upto hJ (by rw [ofS_len] at h85; omega)⟩ (by omega) 19 rfl rfl ⟨rfl, trivial⟩ rfl rfl
        ·
          refine CJ.exit ?_
          refine EJ.thenE ?_
          refine EJ.thenE ?_
          refine EJ.inE ?_
          refine EJ.thenN (hK18 ?_)
          refine CJ.seq fun _ hK25 _ => ?_
          refine CJ.region ?_
          refine J.p (PR.assign rfl) rfl ?_
          refine J.nil ?_
          refine EJ.thenN (hK25 ?_)
          refine CJ.ret ?_
          refine EJ.ret1 rfl (Res.tmp rfl) fun w hH => ?_
          replace hH := hH.tail
          exact ⟨rb (by unfold isAlg; rw [hD, decide_eq_true hlen, hM9, noD_good (fun j hj => hJ j (by omega))]; rfl), hH⟩
def noDf (ds : List Int) (fs : List (List Term)) (ts : List Term) : Bool := decide ((dS ds fs (toS ts)).length > 0)
theorem noD_any {ds : List Int} {fs : List (List Term)} : noD ds fs = !(fs.any (noDf ds fs)) := by
  cases h : fs.any (noDf ds fs) with
  | true =>
    obtain ⟨x, hx, hp⟩ := List.any_eq_true.1 h
    obtain ⟨j, hj, rfl⟩ := List.mem_iff_getElem.1 hx
    rw [fm_eq hj] at hp
    rw [noD_bad hj (by unfold noDf at hp; have := of_decide_eq_true hp; omega)]
    rfl
  | false =>
    rw [noD_good fun j hj => by
      have := List.any_eq_false.1 h _ (fm_mem hj)
      unfold noDf at this
      rw [decide_eq_true_eq] at this
      omega]
    rfl
set_option maxRecDepth 10000 in
theorem IsAlgebra1_c {B : World} {H0 H : HP} {L : List SA} {w : World} {qts : Option Addr} {cts : Nat} {ts : List Term} {ba : Nat} {qad qaf : Option Addr} {cad caf : Nat} {ad : List Int} {af : List (List Term)} {Mi Ms : Int} (hts : Terms H qts ts) (pad : CellAt H ba 0 (.slice qad ad.length cad)) (paf : CellAt H ba 1 (.slice qaf af.length caf)) (had : Ints H qad ad) (haf : Forms H qaf af) (hn : ad.length ≤ 8) (hd : ∀ j, 0 ≤ ad.getD j 0 ∧ ad.getD j 0 ≤ 12) (hf : Fok Mi af) (hl : af.length = ad.length) (hs : Sok Ms (toS ts)) (ho : Occ af.length (toS ts)) (hM : 0 ≤ Mi ∧ Ms + Mi + Ms ≤ 1000000) (hll : ts.length ≤ 1000000000) (hH : Hp B H0 H L w) :
    Calls Tryd.prog 71 [.agg [.slice qts ts.length cts].toArray, .pointer (some ⟨ba, 0, none⟩)].toArray w fun e w' => e = .returned (.bool (noDf ad af ts)) ∧ Hp B H0 H L w' := by
  refine CJ.enter Tryd.func71 rfl 9 rfl rfl [(0, .agg [.slice qts ts.length cts].toArray), (1, .pointer (some ⟨ba, 0, none⟩))] rfl hH ?_
  clear hH
  refine CJ.seq fun _ hK1 _ => ?_
  refine CJ.region ?_
  refine J.box rfl rfl rfl fun g2 => ?_
  refine J.p (PR.assign rfl) rfl ?_
  refine J.nil ?_
  refine EJ.thenN (hK1 ?_)
  refine CJ.seq fun _ hK2 _ => ?_
  refine CJ.region ?_
  refine J.p (PR.loadAll rfl At.z (by simpa [*] using ag32)) rfl ?_
  refine J.call fn73 rfl rfl fun w hH => (sumOf_c hts hs (by omega) hH).mono ?_
  rintro _ w ⟨bo5, rfl, hH⟩
  refine ⟨_, rfl, fun a hF => J.of hF hH ?_⟩
  refine J.call fn72 rfl rfl fun w hH => hH.lend .z fun Hl1 hle1 hA1 hB1 hH => (d_c (pad.le hle1) (paf.le hle1) (had.le hle1) (haf.le hle1) (omap_H hA1) hs hn hd hf hl ho hM hH).mono ?_
  rintro _ w ⟨bo6, rfl, hH⟩
  replace hH := hB1 _ _ hH
  refine ⟨_, rfl, fun a hF => J.of hF hH ?_⟩
  refine J.p (PR.lenO u108 rfl (.s .z) rfl) rfl ?_
  refine J.p (PR.gtr rfl rfl) rfl ?_
  refine J.p (PR.assign rfl) rfl ?_
  refine J.nil ?_
  refine EJ.thenN (hK2 ?_)
  refine CJ.ret ?_
  refine EJ.ret1 rfl (Res.tmp rfl) fun w hH => ?_
  replace hH := hH.tail
  replace hH := hH.tail
  replace hH := hH.tail
  exact ⟨rb (by unfold noDf; exact decide_eq_decide.2 (by omega)), hH⟩
set_option maxHeartbeats 4000000 in
set_option maxRecDepth 10000 in
theorem IsAlgebra_c {B : World} {H0 H : HP} {L : List SA} {w : World} {qad qaf : Option Addr} {cad caf : Nat} {ad : List Int} {af : List (List Term)}  (had : Ints H qad ad) (haf : Forms H qaf af) (hn8 : ad.length ≤ 1048576) (hn9 : af.length ≤ 1048576) (hl9 : ∀ i, i < af.length → (fm af i).length ≤ 1048576) (hH : Hp B H0 H L w) :
    Calls Tryd.prog 45 [.agg [.slice qad ad.length cad, .slice qaf af.length caf].toArray].toArray w fun e w' => e = .returned (.bool (isAlg ad af)) ∧ Hp B H0 H L w' := by
  refine CJ.enter Tryd.func45 rfl 50 rfl rfl [(0, .agg [.slice qad ad.length cad, .slice qaf af.length caf].toArray)] rfl hH ?_
  have hw0 := hH.old
  have hw1 := hH.le
  clear hH
  refine CJ.seq fun _ hK1 _ => ?_
  refine CJ.region ?_
  refine J.box rfl rfl rfl fun g1 => ?_
  refine J.p (PR.assign rfl) rfl ?_
  refine J.nil ?_
  refine EJ.thenN (hK1 ?_)
  refine CJ.seq fun _ hK2 _ => ?_
  refine CJ.seq fun _ hK3 _ => ?_
  refine CJ.region ?_
  refine J.p (PR.fldA u44 rfl sz22 rfl) rfl ?_
  refine J.p (PR.load rfl At.z rfl pl22) rfl ?_
  refine J.call fn37 rfl rfl fun w hH => (AreDegrees_c had (by omega) hH).mono ?_
  rintro _ w ⟨rfl, hH⟩
  refine ⟨_, rfl, fun a hF => J.of hF hH ?_⟩
  refine J.p (PR.not rfl) rfl ?_
  refine J.p (PR.move rfl) rfl ?_
  refine J.splitB (jd := 9) rfl (fun hg9 => ?_) (fun hg9 => ?_)
  ·
    try have hg9p := of_decide_eq_true hg9
    refine J.gn rfl rfl rfl hg9 ?_
    refine J.gn rfl rfl rfl hg9 ?_
    refine J.gn rfl rfl rfl hg9 ?_
    refine J.gn rfl rfl rfl hg9 ?_
    refine J.gn rfl rfl rfl hg9 ?_
    refine J.gn rfl rfl rfl hg9 ?_
    refine J.gn rfl rfl rfl hg9 ?_
    refine J.p (PR.pickT rfl hg9 rfl) rfl ?_
    refine J.nil ?_
    refine EJ.thenN (hK3 ?_)
    refine CJ.condT rfl ?_
    refine CJ.seq fun _ hK4 _ => ?_
    refine CJ.region ?_
    refine J.p (PR.assign rfl) rfl ?_
    refine J.nil ?_
    refine EJ.thenN (hK4 ?_)
    refine CJ.ret ?_
    refine EJ.thenR ?_
    refine EJ.ret1 rfl (Res.tmp rfl) fun w hH => ?_
    replace hH := hH.tail
    exact ⟨rb (by unfold isAlg; rw [show isDeg ad = false by simpa using hg9]; rfl), hH⟩
  ·
    try have hg9p := of_decide_eq_false hg9
    refine J.gy (PR.fldA u44 rfl sz42 rfl) rfl rfl rfl hg9 ?_
    refine J.gy (PR.load rfl At.z rfl pl42) rfl rfl rfl hg9 ?_
    refine J.gy (PR.lenSlice u42 rfl rfl) rfl rfl rfl hg9 ?_
    refine J.gy (PR.fldA u44 rfl sz22 rfl) rfl rfl rfl hg9 ?_
    refine J.gy (PR.load rfl At.z rfl pl22) rfl rfl rfl hg9 ?_
    refine J.gy (PR.lenSlice u22 rfl rfl) rfl rfl rfl hg9 ?_
    refine J.gy (PR.neq rfl rfl) rfl rfl rfl hg9 ?_
    refine J.p (PR.pickF rfl hg9 rfl) rfl ?_
    refine J.nil ?_
    refine EJ.thenN (hK3 ?_)
    refine CJ.condD rfl (fun hc19 => ?_) (fun hc19 => ?_)
    ·
      refine CJ.seq fun _ hK5 _ => ?_
      refine CJ.region ?_
      refine J.p (PR.assign rfl) rfl ?_
      refine J.nil ?_
      refine EJ.thenN (hK5 ?_)
      refine CJ.ret ?_
      refine EJ.thenR ?_
      refine EJ.ret1 rfl (Res.tmp rfl) fun w hH => ?_
      replace hH := hH.tail
      exact ⟨rb (by unfold isAlg; rw [decide_eq_false (show ¬ af.length = ad.length by omega)]; simp), hH⟩
    ·
      have hD : isDeg ad = true := by simpa using hg9
      have hn := isDeg_len hD
      have hd := isDeg_bd hD
      have hlen : af.length = ad.length := by omega
      have hpos9 : ∀ j, j < ad.length → 0 ≤ ad.getD j 0 := fun j _ => (hd j).1
      refine CJ.skip ?_
      refine EJ.thenN (hK2 ?_)
      refine CJ.seq fun _ hK6 _ => ?_
      refine CJ.seq fun _ hK7 _ => ?_
      refine CJ.region ?_
      refine J.p (PR.fldA u44 rfl sz42 rfl) rfl ?_
      refine J.p (PR.load rfl At.z rfl pl42) rfl ?_
      refine J.p (PR.lenSlice u42 rfl rfl) rfl ?_
      refine J.p (PR.move rfl) rfl ?_
      refine J.nil ?_
      refine EJ.thenN (hK7 ?_)
      refine CJ.block ?_
      refine CJ.loopU (σ := Nat) (fun (k : Nat) => [(21, .int .i64 (k : Int))]) (fun (k : Nat) => H) (fun (k : Nat) => obj g1 (.cells [.slice qad ad.length cad, .slice qaf af.length caf].toArray 44 (0, 0)) :: L) (fun (k : Nat) => k ≤ af.length ∧ ∀ j, j < k → imOk ad af j = true) (fun (k : Nat) => af.length - k) 0 ⟨by omega, fun j hj => by omega⟩ ⟨rfl, trivial⟩ rfl rfl ?_
      rintro k ⟨hk, hI⟩ _ hAg0
      refine CJ.seq fun _ hK8 _ => ?_
      refine CJ.region ?_
      refine J.p (PR.lss rfl rfl) rfl ?_
      refine J.nil ?_
      refine EJ.thenN (hK8 ?_)
      refine CJ.seq fun _ hK9 _ => ?_
      refine CJ.condD rfl (fun hc24 => ?_) (fun hc24 => ?_)
      ·
        have hl0 := hl9 k (by omega)
        have hdi := hd k
        refine CJ.skip ?_
        refine EJ.thenN (hK9 ?_)
        refine CJ.seq fun _ hK10 _ => ?_
        refine CJ.block ?_
        refine CJ.seq fun _ hK11 _ => ?_
        refine CJ.region ?_
        refine J.p (PR.move rfl) rfl ?_
        refine J.p (PR.idx1 u42 sz32 rfl rfl rfl (by omega) haf.sm) rfl ?_
        obtain ⟨qe25, ce25, he25, le25, Fe25⟩ := haf k (by omega)
        refine J.p (PR.loadHagg (cs := [_]) rfl (one_cell he25) (haf.sm (i := k) (by omega)) ag32) rfl ?_
        refine J.alloc ze32 rfl fun g4 => ?_
        refine J.p (PR.assign rfl) rfl ?_
        refine J.storeAll rfl rfl (by first | exact bytesC_one _ | exact intsC_one _ | exact Term.c_one _ | simp [Value.oneCell']) (by simpa [*] using sz32) (by simp [*]) At.z ?_
        refine J.nil ?_
        refine EJ.thenN (hK11 ?_)
        refine CJ.seq fun _ hK12 _ => ?_
        refine CJ.head [[], [0], [], [1, 2], [3], [4], [5], [6, 5], [5], [5], [9, 5], [5], [10, 11, 5], [12, 5], [13, 5]] (by kernel_rfl) ?_
        refine HJ.op (fun gh => PR.fldA u44 rfl sz22 rfl) ?_
        refine HJ.op (fun gh => PR.load rfl (.s .z) rfl pl22) ?_
        refine HJ.op (fun gh => PR.loadAll rfl At.z (by simpa [*] using ag32)) ?_
        refine HJ.call fn38 (fun gh => rfl) (fun w X hH => isForm_c had Fe25 (by omega) (by omega) hH) ?_
        refine HJ.op (fun gh => PR.not rfl) ?_
        refine HJ.op (fun gh => PR.move rfl) ?_
        refine HJ.splitB 5 rfl (fun h31 => ?_) (fun h31 => ?_)
        ·
          try have h31p := of_decide_eq_true h31
          refine HJ.gn rfl (fun gh => rfl) h31 ?_
          refine HJ.gn rfl (fun gh => rfl) h31 ?_
          refine HJ.gn rfl (fun gh => rfl) h31 ?_
          refine HJ.gn rfl (fun gh => rfl) h31 ?_
          refine HJ.gn rfl (fun gh => rfl) h31 ?_
          refine HJ.gn rfl (fun gh => rfl) h31 ?_
          refine HJ.gn rfl (fun gh => rfl) h31 ?_
          refine HJ.gn rfl (fun gh => rfl) h31 ?_
          refine HJ.gn rfl (fun gh => rfl) h31 ?_
          refine HJ.close 15 1 foll0 (by kernel_rfl) rfl rfl fun gh => ?_
          refine J.conv (us' := (26, _) :: (27, _) :: (28, _) :: (29, _) :: (30, _) :: (31, _) :: (32, _) :: (33, _) :: (34, _) :: (35, _) :: (36, _) :: (37, _) :: (38, _) :: (39, _) :: (40, _) :: _) (L' := _) rfl rfl ?_
          refine J.gn rfl rfl rfl h31 ?_
          refine J.nil ?_
          refine EJ.still ?_
          refine JS.gn rfl rfl rfl h31 ?_
          refine JS.op (PR.pickT rfl h31 rfl) rfl ?_
          refine JS.nil ?_
          refine EJ.thenN (hK12 ?_)
          refine CJ.condT rfl ?_
          refine CJ.seq fun _ hK13 _ => ?_
          refine CJ.region ?_
          refine J.p (PR.assign rfl) rfl ?_
          refine J.nil ?_
          refine EJ.thenN (hK13 ?_)
          refine CJ.ret ?_
          refine EJ.inR ?_
          refine EJ.thenR ?_
          refine EJ.thenR ?_
          refine EJ.inR ?_
          refine EJ.thenR ?_
          refine EJ.ret1 rfl (Res.tmp rfl) fun w hH => ?_
          replace hH := hH.tail
          replace hH := hH.tail
          exact ⟨rb (by unfold isAlg; rw [imsOk_bad (i := k) (by omega) (imOk_no1 (by simpa using h31))]; simp), hH⟩
        ·
          try have h31p := of_decide_eq_false h31
          refine HJ.gy (fun gh => PR.fldA u44 rfl sz22 rfl) rfl (fun gh => rfl) h31 ?_
          refine HJ.gy (fun gh => PR.load rfl (.s .z) rfl pl22) rfl (fun gh => rfl) h31 ?_
          refine HJ.gy (fun gh => PR.loadAll rfl At.z (by simpa [*] using ag32)) rfl (fun gh => rfl) h31 ?_
          refine HJ.gy (fun gh => PR.fldA u44 rfl sz22 rfl) rfl (fun gh => rfl) h31 ?_
          refine HJ.gy (fun gh => PR.load rfl (.s .z) rfl pl22) rfl (fun gh => rfl) h31 ?_
          refine HJ.gy (fun gh => PR.move rfl) rfl (fun gh => rfl) h31 ?_
          refine HJ.gy (fun gh => PR.idx1 u22 sz2 rfl rfl rfl (by omega) had.sm) rfl (fun gh => rfl) h31 ?_
          refine HJ.gy (fun gh => PR.loadH rfl (had _ (by omega)) pl2) rfl (fun gh => rfl) h31 ?_
          refine HJ.gy (fun gh => PR.add rfl rfl (by first | exact nw _ (by omega) | rfl)) rfl (fun gh => rfl) h31 ?_
          refine HJ.close 15 1 foll0 (by kernel_rfl) rfl rfl fun gh => ?_
          refine J.conv (us' := (26, _) :: (27, _) :: (28, _) :: (29, _) :: (30, _) :: (31, _) :: (32, _) :: (33, _) :: (34, _) :: (35, _) :: (36, _) :: (37, _) :: (38, _) :: (39, _) :: (40, _) :: _) (L' := _) rfl rfl ?_
          refine J.gcall fn70 rfl rfl h31 rfl rfl fun w hH => (isOfDegree_c had Fe25 hn hd (by omega) hH).mono ?_
          rintro _ w ⟨rfl, hH⟩
          refine ⟨_, rfl, fun a hF => J.of hF hH ?_⟩
          refine J.nil ?_
          refine EJ.still ?_
          refine JS.gy (PR.not rfl) rfl rfl rfl h31 ?_
          refine JS.op (PR.pickF rfl h31 rfl) rfl ?_
          refine JS.nil ?_
          refine EJ.thenN (hK12 ?_)
          refine CJ.cond rfl (fun h43 => ?_) (fun h43 => ?_)
          ·
            refine CJ.seq fun _ hK14 _ => ?_
            refine CJ.region ?_
            refine J.p (PR.assign rfl) rfl ?_
            refine J.nil ?_
            refine EJ.thenN (hK14 ?_)
            refine CJ.ret ?_
            refine EJ.inR ?_
            refine EJ.thenR ?_
            refine EJ.thenR ?_
            refine EJ.inR ?_
            refine EJ.thenR ?_
            refine EJ.ret1 rfl (Res.tmp rfl) fun w hH => ?_
            replace hH := hH.tail
            replace hH := hH.tail
            exact ⟨rb (by unfold isAlg; rw [imsOk_bad (i := k) (by omega) (by unfold imOk; rw [show degOk ad (fm af k) (ad.getD k 0 + 1) = false by simpa using h43]; simp)]; simp), hH⟩
          ·
            refine CJ.skip ?_
            refine EJ.inN ?_
            refine EJ.thenN (hK10 ?_)
            refine CJ.region ?_
            refine J.p (PR.add rfl rfl (by first | exact nw _ (by omega) | rfl)) rfl ?_
            refine J.p (PR.move rfl) rfl ?_
            refine J.nil ?_
            refine EJ.thenN ?_
            refine EJ.drop .z ?_
            exact hAg0 (k + 1) ⟨by omega, upto hI (by unfold imOk; rw [show isForm ad (fm af k) = true by simpa using h31, show degOk ad (fm af k) (ad.getD k 0 + 1) = true by simpa using h43]; rfl)⟩ (by omega) 27 rfl rfl ⟨rfl, trivial⟩ rfl rfl
      ·
        have hM9 := imsOk_good (ds := ad) (fs := af) (fun j hj => hI j (by omega))
        have hA := AlgOk.of hD hlen hM9 haf.wfss
        refine CJ.exit ?_
        refine EJ.thenE ?_
        refine EJ.thenE ?_
        refine EJ.inE ?_
        refine EJ.thenN (hK6 ?_)
        refine CJ.seq fun _ hK15 _ => ?_
        refine CJ.region ?_
        refine J.p (PR.fldA u44 rfl sz42 rfl) rfl ?_
        refine J.p (PR.load rfl At.z rfl pl42) rfl ?_
        refine J.p (PR.makeFunc (ys := []) (zs := [_]) rfl rfl) rfl ?_
        refine J.freezeRow .z fun H3 hle3 hc3 => ?_
        have had3 := had.le hle3
        have haf3 := haf.le hle3
        have hcl : ClF B H0 H3 71 #[.pointer (some ⟨g1, 0, none⟩)] (fun ts => isForm ad ts = true ∧ Wfs ts) (noDf ad af) := fun H' L w q c x hle hS hx hH => IsAlgebra1_c (Mi := 20) (Ms := 20) hx (CellAt.le (hc3 0 _ rfl) hle) (CellAt.le (hc3 1 _ rfl) hle) (had3.le hle) (haf3.le hle) hn hd hA.fok hA.hl (isForm_sok hS.2 hS.1) (Ex.occ (isForm_kex hd hn hS.2 hS.1) hA.hl) (by omega) (by have := isForm_len4 hS.1; omega) hH
        refine J.call fn46 rfl rfl fun w hH => (ContainsFuncF_c haf3 fn71 hcl (by omega) (fun i hi => ⟨hA.ok i hi, hA.wf.fm i⟩) hH).mono ?_
        rintro _ w ⟨rfl, hH⟩
        refine ⟨_, rfl, fun a hF => J.of hF hH ?_⟩
        refine J.p (PR.not rfl) rfl ?_
        refine J.p (PR.assign rfl) rfl ?_
        refine J.nil ?_
        refine EJ.thenN (hK15 ?_)
        refine CJ.ret ?_
        refine EJ.ret1 rfl (Res.tmp rfl) fun w hH => ?_
        exact ⟨rb (by unfold isAlg; rw [hD, decide_eq_true hlen, hM9, noD_any]; rfl), hH.weaken hle3 hw0 hw1⟩
end Go.Proofs.YtbjhllmcnfncdaaDoor.G
namespace Go.Proofs.YtbjhllmcnfncdaaDoor.G
open Go Go.RowKit
namespace Xr
theorem u22 : Tryd.prog.underlying 22 = some (TypeDesc.slice 2) := by kernel_rfl
theorem u25 : Tryd.prog.underlying 25 = some (TypeDesc.struct #[{ name := "Terms", type := 23, offset := 0, embedded := false, tag := "", pkgPath := "", byteOffset := 0 }]) := by kernel_rfl
theorem u37 : Tryd.prog.underlying 37 = some (TypeDesc.slice 25) := by kernel_rfl
theorem u39 : Tryd.prog.underlying 39 = some (TypeDesc.struct #[{ name := "Degrees", type := 22, offset := 0, embedded := false, tag := "", pkgPath := "", byteOffset := 0 }, { name := "Images", type := 37, offset := 1, embedded := false, tag := "", pkgPath := "", byteOffset := 24 }]) := by kernel_rfl
theorem u42 : Tryd.prog.underlying 42 = some (TypeDesc.slice 32) := by kernel_rfl
theorem u44 : Tryd.prog.underlying 44 = some (TypeDesc.struct #[{ name := "Degrees", type := 22, offset := 0, embedded := false, tag := "", pkgPath := "", byteOffset := 0 }, { name := "Images", type := 42, offset := 1, embedded := false, tag := "", pkgPath := "", byteOffset := 24 }]) := by kernel_rfl
theorem sz22 : Size Tryd.prog 22 1 := by unfold Size; kernel_rfl
theorem sz25 : Size Tryd.prog 25 1 := by unfold Size; kernel_rfl
theorem sz32 : Size Tryd.prog 32 1 := by unfold Size; kernel_rfl
theorem sz37 : Size Tryd.prog 37 1 := by unfold Size; kernel_rfl
theorem sz42 : Size Tryd.prog 42 1 := by unfold Size; kernel_rfl
theorem sz44 : Size Tryd.prog 44 2 := by unfold Size; kernel_rfl
theorem by32 : Bytes Tryd.prog 32 24 := by unfold Bytes; kernel_rfl
theorem ze32 : Zero Tryd.prog 32 [.slice none 0 0] := by unfold Zero; kernel_rfl
theorem ze44 : Zero Tryd.prog 44 [.slice none 0 0, .slice none 0 0] := by unfold Zero; kernel_rfl
theorem pl22 : Plain Tryd.prog 22 := ⟨_, u22, rfl⟩
theorem pl37 : Plain Tryd.prog 37 := ⟨_, u37, rfl⟩
theorem ag25 : Agg Tryd.prog 25 1 := ⟨_, u25, rfl, by kernel_rfl⟩
theorem ag44 : Agg Tryd.prog 44 2 := ⟨_, u44, rfl, by kernel_rfl⟩
theorem fn24 : Fn Tryd.prog 24 := ⟨_, Tryd.func24, by kernel_rfl, rfl⟩
theorem fn25 : Fn Tryd.prog 25 := ⟨_, Tryd.func25, by kernel_rfl, rfl⟩
theorem fn28 : Fn Tryd.prog 28 := ⟨_, Tryd.func28, by kernel_rfl, rfl⟩
theorem fn5 : Fn Tryd.prog 5 := ⟨_, Tryd.func5, by kernel_rfl, rfl⟩
theorem fn7 : Fn Tryd.prog 7 := ⟨_, Tryd.func7, by kernel_rfl, rfl⟩
theorem fn8 : Fn Tryd.prog 8 := ⟨_, Tryd.func8, by kernel_rfl, rfl⟩
end Xr
open Xr
def szv (x : Int) : Int := if x < 0 then -1 else x
def updV (vs : Vs) (k : Nat) (x : Option Addr × Nat) : Vs := fun j => if j = k then x else vs j
theorem ownTs_congr {T : TypeId} : ∀ {gs : List (List Term)} {vs vs' : Vs}, (∀ j, j < gs.length → vs j = vs' j) → ownTs T vs gs = ownTs T vs' gs
  | [], _, _, _ => rfl
  | g :: gs, vs, vs', h => by
    have h0 := h 0 (by simp)
    have ih := ownTs_congr (T := T) (gs := gs) (vs := vs.tl) (vs' := vs'.tl) fun j hj => h (j + 1) (by simpa using hj)
    simp only [ownTs, h0, ih]
theorem slicesC_congr : ∀ {gs : List (List Term)} {vs vs' : Vs}, (∀ j, j < gs.length → vs j = vs' j) → slicesC vs gs = slicesC vs' gs
  | [], _, _, _ => rfl
  | g :: gs, vs, vs', h => by
    have h0 := h 0 (by simp)
    have ih := slicesC_congr (gs := gs) (vs := vs.tl) (vs' := vs'.tl) fun j hj => h (j + 1) (by simpa using hj)
    simp only [slicesC, h0, ih]
theorem slicesC_app : ∀ (vs : Vs) (gs : List (List Term)) (f : List Term), slicesC vs (gs ++ [f]) = slicesC vs gs ++ [.slice (vs gs.length).1 f.length (vs gs.length).2]
  | vs, [], f => rfl
  | vs, g :: gs, f => by
    simp only [List.cons_append, slicesC]
    rw [slicesC_app vs.tl gs f]
    rfl
theorem take_fm {fs : List (List Term)} {k : Nat} (hk : k < fs.length) : fs.take (k + 1) = fs.take k ++ [fm fs k] := by
  rw [List.take_succ_eq_append_getElem hk, fm_eq hk]
def fillF (vs : Vs) (fs : List (List Term)) (k : Nat) : List Value := slicesC vs (fs.take k) ++ List.replicate (fs.length - k) (.slice none 0 0)
@[simp] theorem fillF_len {vs : Vs} {fs : List (List Term)} {k : Nat} (hk : k ≤ fs.length) : (fillF vs fs k).length = fs.length := by simp [fillF]; omega
theorem slicesC_upd {vs : Vs} {fs : List (List Term)} {k : Nat} (hk : k < fs.length) (x : Option Addr × Nat) : slicesC (updV vs k x) (fs.take (k + 1)) = slicesC vs (fs.take k) ++ [.slice x.1 (fm fs k).length x.2] := by
  have hl : (fs.take k).length = k := List.length_take_of_le (by omega)
  rw [take_fm hk, slicesC_app, hl, slicesC_congr (vs' := vs) fun j hj => by unfold updV; rw [if_neg (by omega)]]
  simp [updV]
theorem fillF_step {vs : Vs} {fs : List (List Term)} {k : Nat} (hk : k < fs.length) (q : Option Addr) (c : Nat) : (fillF vs fs k).take k ++ [.slice q (fm fs k).length c] ++ (fillF vs fs k).drop (k + 1) = fillF (updV vs k (q, c)) fs (k + 1) := by
  have hl : (slicesC vs (fs.take k)).length = k := by simp; omega
  unfold fillF
  rw [slicesC_upd hk, List.take_append_of_le_length (by omega), List.take_of_length_le (by omega), List.drop_append, List.drop_of_length_le (by omega), List.nil_append, hl, List.drop_replicate]
  congr 2
  omega
theorem fillF_end (vs : Vs) (fs : List (List Term)) : fillF vs fs fs.length = slicesC vs fs := by simp [fillF]
theorem flat1 (z : Value) : ∀ m, (List.replicate m [z]).flatten = List.replicate m z
  | 0 => rfl
  | m + 1 => by rw [List.replicate_succ, List.replicate_succ, List.flatten_cons, flat1 z m]; rfl
section
variable {P : Program} {ops : Array Oper} {Q : Exit → Act → World → Prop} {n : Nat} {B : World} {H0 H : HP} {rest : List Oper} {us : List (Nat × Value)} {L : List SA} {t : TypeId} {p : String} {af : Array Edge} {d : Nat} {x y : Operand} {R : Act → World → Prop}
theorem J.makeSl (T : TypeId) {ty e : TypeId} {k k' : IntKind} {i j : Int} {m : Nat} (hu : P.underlying ty = some (.slice e)) (hz : Zero P e [.slice none 0 0]) (hs : Size P e 1) (hb : Bytes P e 24)
    (hx : opv us x = some (.int k i)) (hy : opv us y = some (.int k' j)) (hi : i = (m : Int)) (hj : j = (m : Int)) (hl : m ≤ 1048576) (hd : Nat.blt d n = true)
    (hk : ∀ g, J P ops Q n B H0 rest ((d, .slice (some ⟨g, 0, none⟩) m m) :: us) H (obj g (.cells (List.replicate m (.slice none 0 0)).toArray e (0, 0)) :: ownTs T nilVs [] :: L)) :
    J P ops Q n B H0 (⟨some d, .makeSlice ty x y, t, p, af, none⟩ :: rest) us H L := by
  refine J.make hu hz hs hb hx hy hi hj (Nat.le_refl _) (by omega) (by omega) hd fun g => ?_
  rw [flat1]
  exact fun a w hF hH => hk g a w hF (hH.emp.front (.s .z))
theorem EJ.tsSnoc {T : TypeId} {q : Option Addr} {c k : Nat} {fs : List (List Term)} {vs : Vs} (hk : k < fs.length) (h : EJ R n B H0 us H (ownTs T (updV vs k (q, c)) (fs.take (k + 1)) :: L)) : EJ R n B H0 us H (own T 9 q (fm fs k).length c (tsC (fm fs k)) :: ownTs T vs (fs.take k) :: L) := fun a w hF hH => by
  have hl : (fs.take k).length = k := List.length_take_of_le (by omega)
  rw [take_fm hk] at h
  refine h a w hF (Hp.fsOut ?_)
  rw [hl, show updV vs k (q, c) k = (q, c) by simp [updV], ownTs_congr (vs' := vs) fun j hj => by unfold updV; rw [if_neg (by omega)]]
  exact hH
end
theorem tot_pre {fs : List (List Term)} {i : Nat} (hi : i ≤ fs.length) : tot (fs.take i) ≤ tot fs := by
  conv => rhs; rw [← List.take_append_drop i fs, tot_app]
  omega
theorem tot_fm {fs : List (List Term)} {i : Nat} (hi : i < fs.length) : (fm fs i).length ≤ tot fs := by
  have h1 := tot_succ hi
  have h2 := tot_pre (fs := fs) (i := i + 1) hi
  omega
set_option maxRecDepth 10000 in
theorem toFormS_c {B : World} {H0 H : HP} {L : List SA} {w : World} {qfs : Option Addr} {cfs : Nat} {fs : List (List Term)}  (hfs : Forms H qfs fs) (hn : fs.length ≤ 1048576) (hl : ∀ i, i < fs.length → (fm fs i).length ≤ 1048576) (hH : Hp B H0 H L w) :
    Calls Tryd.prog 28 [.slice qfs fs.length cfs].toArray w fun e w' => ∃ q c vs, e = .returned (.slice q fs.length c) ∧ Hp B H0 H (ownFs 32 66 q c vs fs :: L) w' := by
  refine CJ.enter Tryd.func28 rfl 23 rfl rfl [(0, .slice qfs fs.length cfs)] rfl hH ?_
  clear hH
  refine CJ.seq fun _ hK1 _ => ?_
  refine CJ.region ?_
  refine J.p (PR.assign rfl) rfl ?_
  refine J.nil ?_
  refine EJ.thenN (hK1 ?_)
  refine CJ.seq fun _ hK2 _ => ?_
  refine CJ.region ?_
  refine J.p (PR.move rfl) rfl ?_
  refine J.p (PR.lenSlice u37 rfl rfl) rfl ?_
  refine J.makeSl 66 (m := fs.length) u42 ze32 sz32 by32 rfl rfl rfl rfl (by omega) rfl fun g7 => ?_
  refine J.p (PR.assign rfl) rfl ?_
  refine J.nil ?_
  refine EJ.thenN (hK2 ?_)
  refine CJ.seq fun _ hK3 _ => ?_
  refine CJ.seq fun _ hK4 _ => ?_
  refine CJ.region ?_
  refine J.p (PR.assign rfl) rfl ?_
  refine J.nil ?_
  refine EJ.thenN (hK4 ?_)
  refine CJ.block ?_
  refine CJ.loopU (σ := Vs × Nat) (fun ⟨vs, k⟩ => [(4, .int .i64 (k : Int))]) (fun ⟨vs, k⟩ => H) (fun ⟨vs, k⟩ => obj g7 (.cells (fillF vs fs k).toArray 32 (0, 0)) :: ownTs 66 vs (fs.take k) :: L) (fun ⟨vs, k⟩ => k ≤ fs.length) (fun ⟨vs, k⟩ => fs.length - k) (nilVs, 0) (by show 0 ≤ fs.length; omega) ⟨rfl, trivial⟩ rfl (by simp [fillF, slicesC]) ?_
  rintro ⟨vs, k⟩ hI _ hAg0
  have hk := hI
  refine CJ.seq fun _ hK5 _ => ?_
  refine CJ.seq fun _ hK6 _ => ?_
  refine CJ.region ?_
  refine J.p (PR.move rfl) rfl ?_
  refine J.p (PR.move rfl) rfl ?_
  refine J.p (PR.lenSlice u37 rfl rfl) rfl ?_
  refine J.p (PR.lss rfl rfl) rfl ?_
  refine J.nil ?_
  refine EJ.thenN (hK6 ?_)
  refine CJ.condD rfl (fun h11 => ?_) (fun h11 => ?_)
  ·
    have hlk := hl k (by omega)
    refine CJ.skip ?_
    refine EJ.thenN (hK5 ?_)
    refine CJ.seq fun _ hK7 _ => ?_
    refine CJ.block ?_
    refine CJ.region ?_
    refine J.p (PR.move rfl) rfl ?_
    refine J.p (PR.move rfl) rfl ?_
    refine J.p (PR.move rfl) rfl ?_
    refine J.p (PR.move rfl) rfl ?_
    refine J.p (PR.idx1 u37 sz25 rfl rfl rfl (by omega) hfs.sm) rfl ?_
    obtain ⟨qe19, ce19, he19, le19, Fe19⟩ := hfs k (by omega)
    refine J.p (PR.loadHagg (cs := [_]) rfl (one_cell he19) (hfs.sm (i := k) (by omega)) ag25) rfl ?_
    refine J.call fn8 rfl rfl fun w hH => (toForm_c Fe19 (by omega) hH).mono ?_
    rintro _ w ⟨qo20, co20, rfl, hH⟩
    refine ⟨_, rfl, fun a hF => J.of hF hH ?_⟩
    refine J.p (PR.idxO1 u42 sz32 rfl rfl rfl (by omega)) rfl ?_
    refine J.stores (vs := [.slice qo20 (fm fs k).length co20]) rfl rfl rfl (by simp [Value.oneCell']) sz32 (by rw [fillF_len (by omega)]; simp; omega) (.s .z) ?_
    refine J.nil ?_
    refine EJ.inN ?_
    refine EJ.thenN (hK7 ?_)
    refine CJ.region ?_
    refine J.p (PR.move rfl) rfl ?_
    refine J.p (PR.add rfl rfl (by first | exact nw _ (by omega) | rfl)) rfl ?_
    refine J.p (PR.assign rfl) rfl ?_
    refine J.nil ?_
    refine EJ.thenN ?_
    refine EJ.front (.s .z) ?_
    refine EJ.front (.s (.s .z)) ?_
    refine EJ.front (.s (.s .z)) ?_
    refine EJ.tsSnoc (by omega) ?_
    refine EJ.front .z ?_
    refine EJ.front (.s .z) ?_
    exact hAg0 (updV vs k (qo20, co20), k + 1) (by show k + 1 ≤ fs.length; omega) (by show fs.length - (k + 1) < fs.length - k; omega) 16 rfl rfl ⟨rfl, trivial⟩ rfl (by dsimp only; rw [← fillF_step (by omega)]; rfl)
  ·
    refine CJ.exit ?_
    refine EJ.thenE ?_
    refine EJ.thenE ?_
    refine EJ.inE ?_
    refine EJ.thenN (hK3 ?_)
    refine CJ.seq fun _ hK8 _ => ?_
    refine CJ.region ?_
    refine J.p (PR.move rfl) rfl ?_
    refine J.p (PR.assign rfl) rfl ?_
    refine J.nil ?_
    refine EJ.thenN (hK8 ?_)
    refine CJ.ret ?_
    refine EJ.ret1 rfl (Res.tmp rfl) fun w hH => ?_
    replace hH := hH.sublist (.cons_cons _ (.cons_cons _ (List.Sublist.refl _)))
    obtain rfl : k = fs.length := by omega
    rw [fillF_end, List.take_length] at hH
    exact ⟨_, _, _, rfl, (own_full _ 1 hH (by simp) (by simp only [maxLen]; omega)).star⟩
set_option maxRecDepth 10000 in
theorem szFormS_c {B : World} {H0 H : HP} {L : List SA} {w : World} {qfs : Option Addr} {cfs : Nat} {fs : List (List Term)} {left : Int}  (hfs : Forms H qfs fs) (hn : 0 ≤ left ∧ left ≤ 1000000000 ∧ fs.length ≤ 9223372036854775807) (hl : ∀ i, i < fs.length → (fm fs i).length ≤ 9223372036854775807) (hH : Hp B H0 H L w) :
    Calls Tryd.prog 25 [.slice qfs fs.length cfs, .int .i64 left].toArray w fun e w' => e = .returned (.int .i64 (szv (left - fs.length - tot fs))) ∧ Hp B H0 H L w' := by
  refine CJ.enter Tryd.func25 rfl 27 rfl rfl [(0, .slice qfs fs.length cfs), (1, .int .i64 left)] rfl hH ?_
  clear hH
  refine CJ.seq fun _ hK1 _ => ?_
  refine CJ.region ?_
  refine J.p (PR.assign rfl) rfl ?_
  refine J.nil ?_
  refine EJ.thenN (hK1 ?_)
  refine CJ.seq fun _ hK2 _ => ?_
  refine CJ.region ?_
  refine J.p (PR.move rfl) rfl ?_
  refine J.p (PR.move rfl) rfl ?_
  refine J.p (PR.lenSlice u37 rfl rfl) rfl ?_
  refine J.p (PR.sub rfl rfl (by first | exact nw _ (by omega) | rfl)) rfl ?_
  refine J.p (PR.assign rfl) rfl ?_
  refine J.nil ?_
  refine EJ.thenN (hK2 ?_)
  refine CJ.seq fun _ hK3 _ => ?_
  refine CJ.seq fun _ hK4 _ => ?_
  refine CJ.region ?_
  refine J.p (PR.move rfl) rfl ?_
  refine J.p (PR.lss rfl rfl) rfl ?_
  refine J.nil ?_
  refine EJ.thenN (hK4 ?_)
  refine CJ.condD rfl (fun h11 => ?_) (fun h11 => ?_)
  ·
    refine CJ.seq fun _ hK5 _ => ?_
    refine CJ.region ?_
    refine J.p (PR.assign rfl) rfl ?_
    refine J.nil ?_
    refine EJ.thenN (hK5 ?_)
    refine CJ.ret ?_
    refine EJ.thenR ?_
    refine EJ.ret1 rfl (Res.tmp rfl) fun w hH => ?_
    exact ⟨ri (by unfold szv; rw [if_pos (by omega)]), hH⟩
  ·
    refine CJ.skip ?_
    refine EJ.thenN (hK3 ?_)
    refine CJ.seq fun _ hK6 _ => ?_
    refine CJ.seq fun _ hK7 _ => ?_
    refine CJ.region ?_
    refine J.p (PR.assign rfl) rfl ?_
    refine J.nil ?_
    refine EJ.thenN (hK7 ?_)
    refine CJ.block ?_
    refine CJ.loopU (σ := Nat) (fun (k : Nat) => [(5, .int .i64 (k : Int)), (1, .int .i64 (left - fs.length - tot (fs.take k)))]) (fun (k : Nat) => H) (fun (k : Nat) => L) (fun (k : Nat) => k ≤ fs.length ∧ 0 ≤ left - fs.length - tot (fs.take k)) (fun (k : Nat) => fs.length - k) 0 ⟨by omega, by simp [tot]; omega⟩ ⟨rfl, ⟨(vi (by simp [tot])), trivial⟩⟩ rfl rfl ?_
    rintro k ⟨hk, hI⟩ _ hAg0
    skip
    refine CJ.seq fun _ hK8 _ => ?_
    refine CJ.seq fun _ hK9 _ => ?_
    refine CJ.region ?_
    refine J.p (PR.move rfl) rfl ?_
    refine J.p (PR.move rfl) rfl ?_
    refine J.p (PR.lenSlice u37 rfl rfl) rfl ?_
    refine J.p (PR.lss rfl rfl) rfl ?_
    refine J.nil ?_
    refine EJ.thenN (hK9 ?_)
    refine CJ.condD rfl (fun h15 => ?_) (fun h15 => ?_)
    ·
      have hlk := hl k (by omega)
      have ts := tot_succ (fs := fs) (i := k) (by omega)
      have tp := tot_pre (fs := fs) (i := k + 1) (by omega)
      refine CJ.skip ?_
      refine EJ.thenN (hK8 ?_)
      refine CJ.seq fun _ hK10 _ => ?_
      refine CJ.block ?_
      refine CJ.seq fun _ hK11 _ => ?_
      refine CJ.region ?_
      refine J.p (PR.move rfl) rfl ?_
      refine J.p (PR.move rfl) rfl ?_
      refine J.p (PR.idx1 u37 sz25 rfl rfl rfl (by omega) hfs.sm) rfl ?_
      obtain ⟨qe21, ce21, he21, le21, Fe21⟩ := hfs k (by omega)
      refine J.p (PR.loadHagg (cs := [_]) rfl (one_cell he21) (hfs.sm (i := k) (by omega)) ag25) rfl ?_
      refine J.p (PR.move rfl) rfl ?_
      refine J.call fn5 rfl rfl fun w hH => (szForm_c Fe21 (by omega) hH).mono ?_
      rintro _ w ⟨rfl, hH⟩
      refine ⟨_, rfl, fun a hF => J.of hF hH ?_⟩
      refine J.p (PR.assign rfl) rfl ?_
      refine J.nil ?_
      refine EJ.thenN (hK11 ?_)
      refine CJ.seq fun _ hK12 _ => ?_
      refine CJ.region ?_
      refine J.p (PR.move rfl) rfl ?_
      refine J.p (PR.lss rfl rfl) rfl ?_
      refine J.nil ?_
      refine EJ.thenN (hK12 ?_)
      refine CJ.condD rfl (fun h25 => ?_) (fun h25 => ?_)
      ·
        refine CJ.seq fun _ hK13 _ => ?_
        refine CJ.region ?_
        refine J.p (PR.assign rfl) rfl ?_
        refine J.nil ?_
        refine EJ.thenN (hK13 ?_)
        refine CJ.ret ?_
        refine EJ.inR ?_
        refine EJ.thenR ?_
        refine EJ.thenR ?_
        refine EJ.inR ?_
        refine EJ.thenR ?_
        refine EJ.ret1 rfl (Res.tmp rfl) fun w hH => ?_
        exact ⟨ri (by unfold szv; rw [if_pos (by split at h25 <;> omega)]), hH⟩
      ·
        refine CJ.skip ?_
        refine EJ.inN ?_
        refine EJ.thenN (hK10 ?_)
        refine CJ.region ?_
        refine J.p (PR.move rfl) rfl ?_
        refine J.p (PR.add rfl rfl (by first | exact nw _ (by omega) | rfl)) rfl ?_
        refine J.p (PR.assign rfl) rfl ?_
        refine J.nil ?_
        refine EJ.thenN ?_
        exact hAg0 (k + 1) ⟨by omega, by split at h25 <;> omega⟩ (by omega) 18 rfl rfl ⟨rfl, ⟨(vi (by split at h25 <;> split <;> omega)), trivial⟩⟩ rfl rfl
    ·
      refine CJ.exit ?_
      refine EJ.thenE ?_
      refine EJ.thenE ?_
      refine EJ.inE ?_
      refine EJ.thenN (hK6 ?_)
      refine CJ.seq fun _ hK14 _ => ?_
      refine CJ.region ?_
      refine J.p (PR.move rfl) rfl ?_
      refine J.p (PR.assign rfl) rfl ?_
      refine J.nil ?_
      refine EJ.thenN (hK14 ?_)
      refine CJ.ret ?_
      refine EJ.ret1 rfl (Res.tmp rfl) fun w hH => ?_
      obtain rfl : k = fs.length := by omega
      rw [List.take_length] at hI ⊢
      exact ⟨ri (by unfold szv; rw [if_neg (by omega)]), hH⟩
set_option maxRecDepth 10000 in
theorem szInt64S_c {B : World} {H0 H : HP} {L : List SA} {w : World} {qxs : Option Addr} {cxs : Nat} {xs : List Int} {left : Int}  (hxs : Ints H qxs xs) (hn : 0 ≤ left ∧ left ≤ 1000000000 ∧ xs.length ≤ 9223372036854775807) (hH : Hp B H0 H L w) :
    Calls Tryd.prog 24 [.slice qxs xs.length cxs, .int .i64 left].toArray w fun e w' => e = .returned (.int .i64 (if left - xs.length < 0 then -1 else left - xs.length)) ∧ Hp B H0 H L w' := by
  refine CJ.enter Tryd.func24 rfl 12 rfl rfl [(0, .slice qxs xs.length cxs), (1, .int .i64 left)] rfl hH ?_
  clear hH
  refine CJ.seq fun _ hK1 _ => ?_
  refine CJ.region ?_
  refine J.p (PR.assign rfl) rfl ?_
  refine J.nil ?_
  refine EJ.thenN (hK1 ?_)
  refine CJ.seq fun _ hK2 _ => ?_
  refine CJ.region ?_
  refine J.p (PR.move rfl) rfl ?_
  refine J.p (PR.move rfl) rfl ?_
  refine J.p (PR.lenSlice u22 rfl rfl) rfl ?_
  refine J.p (PR.sub rfl rfl (by first | exact nw _ (by omega) | rfl)) rfl ?_
  refine J.p (PR.assign rfl) rfl ?_
  refine J.nil ?_
  refine EJ.thenN (hK2 ?_)
  refine CJ.seq fun _ hK3 _ => ?_
  refine CJ.seq fun _ hK4 _ => ?_
  refine CJ.region ?_
  refine J.p (PR.move rfl) rfl ?_
  refine J.p (PR.lss rfl rfl) rfl ?_
  refine J.nil ?_
  refine EJ.thenN (hK4 ?_)
  refine CJ.condD rfl (fun h10 => ?_) (fun h10 => ?_)
  ·
    refine CJ.seq fun _ hK5 _ => ?_
    refine CJ.region ?_
    refine J.p (PR.assign rfl) rfl ?_
    refine J.nil ?_
    refine EJ.thenN (hK5 ?_)
    refine CJ.ret ?_
    refine EJ.thenR ?_
    refine EJ.ret1 rfl (Res.tmp rfl) fun w hH => ?_
    exact ⟨ri (if_pos h10).symm, hH⟩
  ·
    refine CJ.skip ?_
    refine EJ.thenN (hK3 ?_)
    refine CJ.seq fun _ hK6 _ => ?_
    refine CJ.region ?_
    refine J.p (PR.move rfl) rfl ?_
    refine J.p (PR.assign rfl) rfl ?_
    refine J.nil ?_
    refine EJ.thenN (hK6 ?_)
    refine CJ.ret ?_
    refine EJ.ret1 rfl (Res.tmp rfl) fun w hH => ?_
    exact ⟨ri (if_neg h10).symm, hH⟩
set_option maxRecDepth 10000 in
theorem szAlgebra_c {B : World} {H0 H : HP} {L : List SA} {w : World} {qad qaf : Option Addr} {cad caf : Nat} {ad : List Int} {af : List (List Term)} {left : Int}  (had : Ints H qad ad) (haf : Forms H qaf af) (hn : 0 ≤ left ∧ left ≤ 1000000000 ∧ ad.length ≤ 9223372036854775807 ∧ af.length ≤ 9223372036854775807) (hl : ∀ i, i < af.length → (fm af i).length ≤ 9223372036854775807) (hH : Hp B H0 H L w) :
    Calls Tryd.prog 12 [.agg [.slice qad ad.length cad, .slice qaf af.length caf].toArray, .int .i64 left].toArray w fun e w' => e = .returned (.int .i64 (szv (left - ad.length - af.length - tot af))) ∧ Hp B H0 H L w' := by
  refine CJ.enter Tryd.func12 rfl 18 rfl rfl [(0, .agg [.slice qad ad.length cad, .slice qaf af.length caf].toArray), (1, .int .i64 left)] rfl hH ?_
  clear hH
  refine CJ.seq fun _ hK1 _ => ?_
  refine CJ.region ?_
  refine J.box rfl rfl rfl fun g2 => ?_
  refine J.p (PR.assign rfl) rfl ?_
  refine J.nil ?_
  refine EJ.thenN (hK1 ?_)
  refine CJ.seq fun _ hK2 _ => ?_
  refine CJ.region ?_
  refine J.p (PR.fldA u39 rfl sz22 rfl) rfl ?_
  refine J.p (PR.load rfl At.z rfl pl22) rfl ?_
  refine J.p (PR.move rfl) rfl ?_
  refine J.call fn24 rfl rfl fun w hH => (szInt64S_c had (by omega) hH).mono ?_
  rintro _ w ⟨rfl, hH⟩
  refine ⟨_, rfl, fun a hF => J.of hF hH ?_⟩
  refine J.p (PR.assign rfl) rfl ?_
  refine J.nil ?_
  refine EJ.thenN (hK2 ?_)
  refine CJ.seq fun _ hK3 _ => ?_
  refine CJ.seq fun _ hK4 _ => ?_
  refine CJ.region ?_
  refine J.p (PR.move rfl) rfl ?_
  refine J.p (PR.lss rfl rfl) rfl ?_
  refine J.nil ?_
  refine EJ.thenN (hK4 ?_)
  refine CJ.condD rfl (fun h10 => ?_) (fun h10 => ?_)
  ·
    refine CJ.seq fun _ hK5 _ => ?_
    refine CJ.region ?_
    refine J.p (PR.assign rfl) rfl ?_
    refine J.nil ?_
    refine EJ.thenN (hK5 ?_)
    refine CJ.ret ?_
    refine EJ.thenR ?_
    refine EJ.ret1 rfl (Res.tmp rfl) fun w hH => ?_
    replace hH := hH.tail
    exact ⟨ri (by unfold szv; rw [if_pos (by split at h10 <;> omega)]), hH⟩
  ·
    refine CJ.skip ?_
    refine EJ.thenN (hK3 ?_)
    refine CJ.seq fun _ hK6 _ => ?_
    refine CJ.region ?_
    refine J.p (PR.fldA u39 rfl sz37 rfl) rfl ?_
    refine J.p (PR.load rfl At.z rfl pl37) rfl ?_
    refine J.p (PR.move rfl) rfl ?_
    refine J.call fn25 rfl rfl fun w hH => (szFormS_c haf (by split at h10 <;> split <;> omega) hl hH).mono ?_
    rintro _ w ⟨rfl, hH⟩
    refine ⟨_, rfl, fun a hF => J.of hF hH ?_⟩
    refine J.p (PR.assign rfl) rfl ?_
    refine J.nil ?_
    refine EJ.thenN (hK6 ?_)
    refine CJ.seq fun _ hK7 _ => ?_
    refine CJ.seq fun _ hK8 _ => ?_
    refine CJ.region ?_
    refine J.p (PR.move rfl) rfl ?_
    refine J.p (PR.lss rfl rfl) rfl ?_
    refine J.nil ?_
    refine EJ.thenN (hK8 ?_)
    refine CJ.condD rfl (fun h16 => ?_) (fun h16 => ?_)
    ·
      refine CJ.seq fun _ hK9 _ => ?_
      refine CJ.region ?_
      refine J.p (PR.assign rfl) rfl ?_
      refine J.nil ?_
      refine EJ.thenN (hK9 ?_)
      refine CJ.ret ?_
      refine EJ.thenR ?_
      refine EJ.ret1 rfl (Res.tmp rfl) fun w hH => ?_
      replace hH := hH.tail
      have e9 := h16
      unfold szv at e9 ⊢
      exact ⟨ri (by rw [if_pos (by split at h10 <;> split at e9 <;> omega)]), hH⟩
    ·
      refine CJ.skip ?_
      refine EJ.thenN (hK7 ?_)
      refine CJ.seq fun _ hK10 _ => ?_
      refine CJ.region ?_
      refine J.p (PR.move rfl) rfl ?_
      refine J.p (PR.assign rfl) rfl ?_
      refine J.nil ?_
      refine EJ.thenN (hK10 ?_)
      refine CJ.ret ?_
      refine EJ.ret1 rfl (Res.tmp rfl) fun w hH => ?_
      replace hH := hH.tail
      exact ⟨ri (by unfold szv at h16 ⊢; split at h10 <;> split at h16 <;> split <;> omega), hH⟩
set_option maxRecDepth 10000 in
theorem toAlgebra_c {B : World} {H0 H : HP} {L : List SA} {w : World} {qad qaf : Option Addr} {cad caf : Nat} {ad : List Int} {af : List (List Term)}  (had : Ints H qad ad) (haf : Forms H qaf af) (hn : ad.length ≤ 1048576 ∧ af.length ≤ 1048576) (hl : ∀ i, i < af.length → (fm af i).length ≤ 1048576) (hH : Hp B H0 H L w) :
    Calls Tryd.prog 14 [.agg [.slice qad ad.length cad, .slice qaf af.length caf].toArray].toArray w fun e w' => ∃ qd cd qf cf vs, e = .returned (.agg [.slice qd ad.length cd, .slice qf af.length cf].toArray) ∧ Hp B H0 H (own 2 1 qd ad.length cd (intsC ad) :: ownFs 32 66 qf cf vs af :: L) w' := by
  refine CJ.enter Tryd.func14 rfl 13 rfl rfl [(0, .agg [.slice qad ad.length cad, .slice qaf af.length caf].toArray)] rfl hH ?_
  clear hH
  refine CJ.seq fun _ hK1 _ => ?_
  refine CJ.region ?_
  refine J.box rfl rfl rfl fun g1 => ?_
  refine J.alloc ze44 rfl fun g2 => ?_
  refine J.nil ?_
  refine EJ.thenN (hK1 ?_)
  refine CJ.seq fun _ hK2 _ => ?_
  refine CJ.region ?_
  refine J.alloc ze44 rfl fun g3 => ?_
  refine J.nil ?_
  refine EJ.thenN (hK2 ?_)
  refine CJ.seq fun _ hK3 _ => ?_
  refine CJ.region ?_
  refine J.p (PR.fldA u39 rfl sz22 rfl) rfl ?_
  refine J.p (PR.load rfl (.s (.s .z)) rfl pl22) rfl ?_
  refine J.call fn7 rfl rfl fun w hH => (toInt64S_c had (by omega) hH).mono ?_
  rintro _ w ⟨qo6, co6, rfl, hH⟩
  refine ⟨_, rfl, fun a hF => J.of hF hH ?_⟩
  refine J.p (PR.fldA u44 rfl sz22 rfl) rfl ?_
  refine J.store rfl rfl rfl rfl sz22 (by simp [*]) (.s .z) ?_
  refine J.nil ?_
  refine EJ.thenN (hK3 ?_)
  refine CJ.seq fun _ hK4 _ => ?_
  refine CJ.region ?_
  refine J.p (PR.fldA u39 rfl sz37 rfl) rfl ?_
  refine J.p (PR.load rfl (.s (.s (.s .z))) rfl pl37) rfl ?_
  refine J.call fn28 rfl rfl fun w hH => (toFormS_c haf (by omega) hl hH).mono ?_
  rintro _ w ⟨qo10, co10, vso10, rfl, hH⟩
  refine ⟨_, rfl, fun a hF => J.of hF hH ?_⟩
  refine J.p (PR.fldA u44 rfl sz42 rfl) rfl ?_
  refine J.store rfl rfl rfl rfl sz42 (by simp [*]) (.s (.s .z)) ?_
  refine J.nil ?_
  refine EJ.thenN (hK4 ?_)
  refine CJ.seq fun _ hK5 _ => ?_
  refine CJ.region ?_
  refine J.p (PR.loadAll rfl (.s (.s .z)) (by simpa [*] using ag44)) rfl ?_
  refine J.storeAll rfl rfl (by first | exact bytesC_one _ | exact intsC_one _ | exact Term.c_one _ | simp [Value.oneCell']) (by simpa [*] using sz44) (by simp [*]) (.s (.s (.s .z))) ?_
  refine J.nil ?_
  refine EJ.thenN (hK5 ?_)
  refine CJ.ret ?_
  refine EJ.ret1 rfl (Res.agg rfl (.s (.s (.s .z))) (by simpa [*] using ag44)) fun w hH => ?_
  replace hH := hH.sublist (.cons_cons _ (.cons_cons _ (.cons _ (.cons _ (.cons _ (List.Sublist.refl _))))))
  exact ⟨_, _, _, _, _, rfl, hH.front (.s .z)⟩
end Go.Proofs.YtbjhllmcnfncdaaDoor.G
namespace Go.Proofs.YtbjhllmcnfncdaaDoor.G
open Go Go.RowKit
section
variable {P : Program} {n : Nat} {B : World} {H0 H : HP} {us : List (Nat × Value)} {L : List SA} {t : TypeId} {x : Operand}
theorem PR.loadHb {ty : TypeId} {b : Nat} {u v : Value} (hx : opv us x = some (.pointer (some ⟨b, 0, none⟩))) (h0 : CellAt H b 0 u) (h1 : CellAt H b 1 v) (hp : Agg P ty 2) : PR P n B H0 us H L (.load ty x) t (.agg [u, v].toArray) :=
  PR.loadHagg (q := some ⟨b, 0, none⟩) (k := 0) (cs := [u, v]) hx (fun j w hj => by
    match j, hj with
    | 0, hj => simp at hj; subst hj; exact h0
    | 1, hj => simp at hj; subst hj; exact h1
    | j + 2, hj => simp at hj) rfl hp
end
end Go.Proofs.YtbjhllmcnfncdaaDoor.G
namespace Go.Proofs.YtbjhllmcnfncdaaDoor.G
open Go Go.RowKit
namespace Xt
theorem u22 : Tryd.prog.underlying 22 = some (TypeDesc.slice 2) := by kernel_rfl
theorem u32 : Tryd.prog.underlying 32 = some (TypeDesc.struct #[{ name := "Terms", type := 30, offset := 0, embedded := false, tag := "", pkgPath := "", byteOffset := 0 }]) := by kernel_rfl
theorem u42 : Tryd.prog.underlying 42 = some (TypeDesc.slice 32) := by kernel_rfl
theorem u44 : Tryd.prog.underlying 44 = some (TypeDesc.struct #[{ name := "Degrees", type := 22, offset := 0, embedded := false, tag := "", pkgPath := "", byteOffset := 0 }, { name := "Images", type := 42, offset := 1, embedded := false, tag := "", pkgPath := "", byteOffset := 24 }]) := by kernel_rfl
theorem u59 : Tryd.prog.underlying 59 = some (TypeDesc.pointer 44) := by kernel_rfl
theorem sz22 : Size Tryd.prog 22 1 := by unfold Size; kernel_rfl
theorem sz32 : Size Tryd.prog 32 1 := by unfold Size; kernel_rfl
theorem ze32 : Zero Tryd.prog 32 [.slice none 0 0] := by unfold Zero; kernel_rfl
theorem pl22 : Plain Tryd.prog 22 := ⟨_, u22, rfl⟩
theorem pl59 : Plain Tryd.prog 59 := ⟨_, u59, rfl⟩
theorem ag32 : Agg Tryd.prog 32 1 := ⟨_, u32, rfl, by kernel_rfl⟩
theorem ag44 : Agg Tryd.prog 44 2 := ⟨_, u44, rfl, by kernel_rfl⟩
theorem fn38 : Fn Tryd.prog 38 := ⟨_, Tryd.func38, by kernel_rfl, rfl⟩
theorem fn45 : Fn Tryd.prog 45 := ⟨_, Tryd.func45, by kernel_rfl, rfl⟩
theorem fn46 : Fn Tryd.prog 46 := ⟨_, Tryd.func46, by kernel_rfl, rfl⟩
theorem fn47 : Fn Tryd.prog 47 := ⟨_, Tryd.func47, by kernel_rfl, rfl⟩
theorem fn48 : Fn Tryd.prog 48 := ⟨_, Tryd.func48, by kernel_rfl, rfl⟩
theorem foll0 : Tryd.prog.follows .mixedOrders = true := by kernel_rfl
end Xt
open Xt
def codeA (ds : List Int) (fs : List (List Term)) (gs : List (List Term)) : Int := if isAlg ds fs && gs.all (isForm ds) then 0 else 1
theorem any_no {ds : List Int} : ∀ gs : List (List Term), (gs.any fun ts => !(isForm ds ts)) = !(gs.all (isForm ds))
  | [] => rfl
  | g :: gs => by simp only [List.any_cons, List.all_cons, any_no gs, Bool.not_and]
set_option maxRecDepth 10000 in
theorem algebraCode1_c {B : World} {H0 H : HP} {L : List SA} {w : World} {qts : Option Addr} {cts : Nat} {ts : List Term} {bba : Nat} {ba : Nat} {qad qaf : Option Addr} {cad caf : Nat} {ad : List Int} {af : List (List Term)}  (hts : Terms H qts ts) (kba : cellO H (some ⟨bba, 0, none⟩) 0 = some (.pointer (some ⟨ba, 0, none⟩))) (pad : CellAt H ba 0 (.slice qad ad.length cad)) (paf : CellAt H ba 1 (.slice qaf af.length caf)) (had : Ints H qad ad) (haf : Forms H qaf af) (hn8 : ad.length ≤ 1048576) (hlt : ts.length ≤ 9223372036854775807) (hH : Hp B H0 H L w) :
    Calls Tryd.prog 47 [.agg [.slice qts ts.length cts].toArray, .pointer (some ⟨bba, 0, none⟩)].toArray w fun e w' => e = .returned (.bool (!(isForm ad ts))) ∧ Hp B H0 H L w' := by
  refine CJ.enter Tryd.func47 rfl 11 rfl rfl [(0, .agg [.slice qts ts.length cts].toArray), (1, .pointer (some ⟨bba, 0, none⟩))] rfl hH ?_
  clear hH
  refine CJ.seq fun _ hK1 _ => ?_
  refine CJ.region ?_
  refine J.box rfl rfl rfl fun g2 => ?_
  refine J.p (PR.assign rfl) rfl ?_
  refine J.nil ?_
  refine EJ.thenN (hK1 ?_)
  refine CJ.seq fun _ hK2 _ => ?_
  refine CJ.head [[], [0], [1], [2], []] (by kernel_rfl) ?_
  refine HJ.op (fun gh => PR.loadH (q := some ⟨bba, 0, none⟩) (k := 0) rfl kba pl59) ?_
  refine HJ.op (fun gh => PR.nilCheck rfl) ?_
  refine HJ.op (fun gh => PR.fldA u44 rfl sz22 rfl) ?_
  refine HJ.op (fun gh => PR.loadH (q := some ⟨ba, 0, none⟩) (k := 0) rfl pad pl22) ?_
  refine HJ.op (fun gh => PR.loadAll rfl At.z (by simpa [*] using ag32)) ?_
  refine HJ.close 5 1 foll0 (by kernel_rfl) rfl rfl fun gh => ?_
  refine J.conv (us' := (4, _) :: (5, _) :: (6, _) :: (7, _) :: (8, _) :: _) (L' := _) rfl rfl ?_
  refine J.call fn38 rfl rfl fun w hH => (isForm_c had hts hn8 hlt hH).mono ?_
  rintro _ w ⟨rfl, hH⟩
  refine ⟨_, rfl, fun a hF => J.of hF hH ?_⟩
  refine J.nil ?_
  refine EJ.still ?_
  refine JS.op (PR.not rfl) rfl ?_
  refine JS.op (PR.assign rfl) rfl ?_
  refine JS.nil ?_
  refine EJ.thenN (hK2 ?_)
  refine CJ.ret ?_
  refine EJ.ret1 rfl (Res.tmp rfl) fun w hH => ?_
  replace hH := hH.tail
  exact ⟨rfl, hH⟩
set_option maxRecDepth 10000 in
theorem algebraCode_c {B : World} {H0 H : HP} {L : List SA} {w : World} {ba : Nat} {qad qaf : Option Addr} {cad caf : Nat} {ad : List Int} {af : List (List Term)} {qfs : Option Addr} {cfs : Nat} {fs : List (List Term)}  (pad : CellAt H ba 0 (.slice qad ad.length cad)) (paf : CellAt H ba 1 (.slice qaf af.length caf)) (had : Ints H qad ad) (haf : Forms H qaf af) (hfs : Forms H qfs fs) (hn8 : ad.length ≤ 1048576) (hn9 : af.length ≤ 1048576) (hl9 : ∀ i, i < af.length → (fm af i).length ≤ 1048576) (hnf : fs.length ≤ 9223372036854775807) (hlf : ∀ i, i < fs.length → (fm fs i).length ≤ 9223372036854775807) (hH : Hp B H0 H L w) :
    Calls Tryd.prog 29 [.pointer (some ⟨ba, 0, none⟩), .slice qfs fs.length cfs].toArray w fun e w' => e = .returned (.int .i64 (codeA ad af fs)) ∧ Hp B H0 H L w' := by
  refine CJ.enter Tryd.func29 rfl 18 rfl rfl [(0, .pointer (some ⟨ba, 0, none⟩)), (1, .slice qfs fs.length cfs)] rfl hH ?_
  have hw0 := hH.old
  have hw1 := hH.le
  clear hH
  refine CJ.seq fun _ hK1 _ => ?_
  refine CJ.region ?_
  refine J.box rfl rfl rfl fun g2 => ?_
  refine J.p (PR.assign rfl) rfl ?_
  refine J.nil ?_
  refine EJ.thenN (hK1 ?_)
  refine CJ.seq fun _ hK2 _ => ?_
  refine CJ.region ?_
  refine J.p (PR.load rfl At.z rfl pl59) rfl ?_
  refine J.p (PR.nilCheck rfl) rfl ?_
  refine J.p (PR.loadHb rfl pad paf ag44) rfl ?_
  refine J.call fn45 rfl rfl fun w hH => (IsAlgebra_c had haf hn8 hn9 hl9 hH).mono ?_
  rintro _ w ⟨rfl, hH⟩
  refine ⟨_, rfl, fun a hF => J.of hF hH ?_⟩
  refine J.p (PR.not rfl) rfl ?_
  refine J.p (PR.move rfl) rfl ?_
  refine J.splitB (jd := 11) rfl (fun h11 => ?_) (fun h11 => ?_)
  ·
    try have h11p := of_decide_eq_true h11
    refine J.gn rfl rfl rfl h11 ?_
    refine J.gn rfl rfl rfl h11 ?_
    refine J.gn rfl rfl rfl h11 ?_
    refine J.p (PR.pickT rfl h11 rfl) rfl ?_
    refine J.p (PR.assign rfl) rfl ?_
    refine J.nil ?_
    refine EJ.thenN (hK2 ?_)
    refine CJ.seq fun _ hK3 _ => ?_
    refine CJ.region ?_
    refine J.p (PR.move rfl) rfl ?_
    refine J.call fn48 rfl rfl fun w hH => (when_c  hH).mono ?_
    rintro _ w ⟨rfl, hH⟩
    refine ⟨_, rfl, fun a hF => J.of hF hH ?_⟩
    refine J.p (PR.assign rfl) rfl ?_
    refine J.nil ?_
    refine EJ.thenN (hK3 ?_)
    refine CJ.ret ?_
    refine EJ.ret1 rfl (Res.tmp rfl) fun w hH => ?_
    replace hH := hH.tail
    exact ⟨ri (by unfold codeA; rw [show isAlg ad af = false by simpa using h11]; rfl), hH⟩
  ·
    try have h11p := of_decide_eq_false h11
    refine J.gy (PR.move rfl) rfl rfl rfl h11 ?_
    refine J.gy (PR.makeFunc (ys := []) (zs := [_]) rfl rfl) rfl rfl rfl h11 ?_
    refine J.freezeRow .z fun H3 hle3 hc3 => ?_
    have hfs3 := hfs.le hle3
    have hcl : ClF B H0 H3 47 #[.pointer (some ⟨g2, 0, none⟩)] (fun ts => ts.length ≤ 9223372036854775807) (fun ts => !(isForm ad ts)) := fun H' L w q c x hle hS hx hH => algebraCode1_c hx (cellO_le hle (hc3 0 _ rfl)) (pad.le (hle3.trans hle)) (paf.le (hle3.trans hle)) (had.le (hle3.trans hle)) (haf.le (hle3.trans hle)) hn8 hS hH
    refine J.gcall fn46 rfl rfl h11 rfl rfl fun w hH => (ContainsFuncF_c hfs3 fn47 hcl hnf hlf hH).mono ?_
    rintro _ w ⟨rfl, hH⟩
    refine ⟨_, rfl, fun a hF => J.of hF hH ?_⟩
    refine J.p (PR.pickF rfl h11 rfl) rfl ?_
    refine J.p (PR.assign rfl) rfl ?_
    refine J.nil ?_
    refine EJ.thenN (hK2 ?_)
    refine CJ.seq fun _ hK4 _ => ?_
    refine CJ.region ?_
    refine J.p (PR.move rfl) rfl ?_
    refine J.call fn48 rfl rfl fun w hH => (when_c  hH).mono ?_
    rintro _ w ⟨rfl, hH⟩
    refine ⟨_, rfl, fun a hF => J.of hF hH ?_⟩
    refine J.p (PR.assign rfl) rfl ?_
    refine J.nil ?_
    refine EJ.thenN (hK4 ?_)
    refine CJ.ret ?_
    refine EJ.ret1 rfl (Res.tmp rfl) fun w hH => ?_
    exact ⟨ri (by unfold codeA; rw [show isAlg ad af = true by simpa using h11, any_no]; cases fs.all (isForm ad) <;> rfl), hH.weaken hle3 hw0 hw1⟩
end Go.Proofs.YtbjhllmcnfncdaaDoor.G
namespace Go.Proofs.YtbjhllmcnfncdaaDoor.G
open Go Go.RowKit
namespace Xv
theorem sz3 : Size Tryd.prog 3 1 := by unfold Size; kernel_rfl
end Xv
open Xv
def genP (i : Nat) : Pw := (List.replicate 8 (0 : Int)).set i 1
@[simp] theorem genP_len (i : Nat) : (genP i).length = 8 := by simp [genP]
def linR (ds : Pw) (s : Sm) : List Int := (List.range ds.length).map fun k => cf s (genP k)
@[simp] theorem linR_len (ds : Pw) (s : Sm) : (linR ds s).length = ds.length := by simp [linR]
def linK (s : Sm) (k : Nat) : List Int := (List.range k).map fun k => cf s (genP k)
@[simp] theorem linK_len (s : Sm) (k : Nat) : (linK s k).length = k := by simp [linK]
end Go.Proofs.YtbjhllmcnfncdaaDoor.G
namespace Go.Proofs.YtbjhllmcnfncdaaDoor.G
open Go Go.RowKit
def ClR (B : World) (H0 H : HP) (g : Nat) (cap : Array Value) (S : List Int → Prop) (p : List Int → Bool) : Prop := ∀ (H' : HP) (L : List SA) (w : World) (q : Option Addr) (c : Nat) (x : List Int), Le H H' → S x → Ints H' q x → Hp B H0 H' L w → Calls Tryd.prog g (#[] ++ [.slice q x.length c].toArray ++ cap) w fun e w' => e = .returned (.bool (p x)) ∧ Hp B H0 H' L w'
end Go.Proofs.YtbjhllmcnfncdaaDoor.G
namespace Go.Proofs.YtbjhllmcnfncdaaDoor.G
open Go Go.RowKit
def linT (ds : List Int) (fs : List (List Term)) : List (List Int) := fs.map fun ts => linR ds (toS ts)
@[simp] theorem linT_len (ds : List Int) (fs : List (List Term)) : (linT ds fs).length = fs.length := by simp [linT]
end Go.Proofs.YtbjhllmcnfncdaaDoor.G
namespace Go.Proofs.YtbjhllmcnfncdaaDoor.G
open Go Go.RowKit
namespace Xy
theorem sz88 : Size Tryd.prog 88 8 := by unfold Size; kernel_rfl
end Xy
open Xy
theorem forms_nil (H : HP) : Forms H none [] := fun i hi => by simp at hi
theorem ClR.le {B : World} {H0 H H' : HP} {g : Nat} {cap : Array Value} {S : List Int → Prop} {p : List Int → Bool} (h : ClR B H0 H g cap S p) (hle : Le H H') : ClR B H0 H' g cap S p := fun H2 L w q c x h2 => h H2 L w q c x (hle.trans h2)
def algC (ds : List Int) (fs : List (List Term)) : Int := if isAlg ds fs then 0 else 1
theorem codeA_nil (ds : List Int) (fs : List (List Term)) : codeA ds fs [] = algC ds fs := by unfold codeA algC; simp
theorem algC_ne {ds : List Int} {fs : List (List Term)} (h : algC ds fs ≠ 0) : isAlg ds fs = false := by
  unfold algC at h
  cases e : isAlg ds fs with
  | false => rfl
  | true => rw [e, if_pos rfl] at h; exact absurd rfl h
theorem algC_eq {ds : List Int} {fs : List (List Term)} (h : ¬ algC ds fs ≠ 0) : isAlg ds fs = true := by
  unfold algC at h
  cases e : isAlg ds fs with
  | false => rw [e] at h; exact absurd (by decide) h
  | true => rfl
end Go.Proofs.YtbjhllmcnfncdaaDoor.G
namespace Go.Proofs.YtbjhllmcnfncdaaDoor.G
open Go Go.RowKit
theorem stm_eq {xs : List Term} {j : Nat} (hj : j < xs.length) : xs[j] = tm xs j := by simp [tm, List.getD_eq_getElem?_getD, List.getElem?_eq_getElem hj]
theorem stm_take {ts : List Term} {k : Nat} (hk : k < ts.length) : ts.take (k + 1) = ts.take k ++ [tm ts k] := by rw [List.take_succ_eq_append_getElem hk, stm_eq hk]
def decL (n : Int) : List UInt8 := Lib.decDigits n.toNat
theorem decL_small {n : Int} (h : 0 ≤ n) (h1 : n < 10) : decL n = [UInt8.ofNat (48 + n).toNat] := by
  unfold decL
  rw [Lib.decDigits_one (by omega)]
  congr 2
  omega
theorem decL_big {n : Int} (h : 0 ≤ n) (h1 : ¬ n < 10) : decL n = decL (n.tdiv 10) ++ [UInt8.ofNat (48 + n.tmod 10).toNat] := by
  have e1 : (n.tdiv 10).toNat = n.toNat / 10 := by rw [Int.tdiv_eq_ediv_of_nonneg h]; omega
  have e2 : (48 + n.tmod 10).toNat = 48 + n.toNat % 10 := by rw [Int.tmod_eq_emod_of_nonneg h]; omega
  unfold decL
  rw [e1, e2, Lib.decDigits, dif_neg (by omega)]
theorem decL_itoa {n : Int} (h : 0 ≤ n) : Lib.itoa n = decL n := by
  unfold Lib.itoa decL
  rw [if_neg (by omega)]
theorem nDigits_le : ∀ (k u : Nat), u < 10 ^ k → 1 ≤ k → Lib.nDigits u ≤ k
  | 0, _, _, h => by omega
  | k + 1, u, h, _ => by
    by_cases hu : u < 10
    · rw [Lib.nDigits_small hu]; omega
    · rw [Lib.nDigits_big hu]
      rw [Nat.pow_succ] at h
      have hk : 1 ≤ k := by
        rcases Nat.eq_zero_or_pos k with h0 | h0
        · subst h0; simp at h; omega
        · exact h0
      have := nDigits_le k (u / 10) (by omega) hk
      omega
theorem decL_len {n : Int} (h : 0 ≤ n) (h1 : n ≤ 9223372036854775807) : (decL n).length ≤ 19 := by
  unfold decL
  rw [Lib.decDigits_length]
  exact nDigits_le 19 _ (by have : (10 : Nat) ^ 19 = 10000000000000000000 := by decide
                            omega) (by omega)
def letT (m : List Int) (i : Nat) : List UInt8 := (if 0 < m.getD i 0 then [UInt8.ofNat (97 + (i : Int)).toNat] else []) ++ (if 1 < m.getD i 0 then decL (m.getD i 0) else [])
def monT (m : List Int) : Nat → List UInt8
  | 0 => []
  | i + 1 => monT m i ++ letT m i
theorem monT_len {m : List Int} (h : ∀ j, 0 ≤ m.getD j 0 ∧ m.getD j 0 ≤ 255) : ∀ k, (monT m k).length ≤ 20 * k
  | 0 => by simp [monT]
  | k + 1 => by
    have h1 := monT_len h k
    have h2 := decL_len (h k).1 (by have := h k; omega)
    have h3 : (letT m k).length ≤ 20 := by
      unfold letT
      rw [List.length_append]
      split <;> split <;> simp only [List.length_singleton, List.length_nil] <;> omega
    simp only [monT, List.length_append]
    omega
theorem monT_yy {m : List Int} {i : Nat} (h1 : 0 < m.getD i 0) (h2 : 1 < m.getD i 0) : (monT m i ++ [UInt8.ofNat (97 + (i : Int)).toNat]) ++ decL (m.getD i 0) = monT m (i + 1) := by
  simp only [monT, letT]
  rw [if_pos h1, if_pos h2, List.append_assoc]
theorem monT_yn {m : List Int} {i : Nat} (h1 : 0 < m.getD i 0) (h2 : ¬ 1 < m.getD i 0) : monT m i ++ [UInt8.ofNat (97 + (i : Int)).toNat] = monT m (i + 1) := by
  simp only [monT, letT]
  rw [if_pos h1, if_neg h2, List.append_nil]
theorem monT_nn {m : List Int} {i : Nat} (h1 : ¬ 0 < m.getD i 0) : monT m i = monT m (i + 1) := by
  simp only [monT, letT]
  rw [if_neg h1, if_neg (by omega), List.append_nil, List.append_nil]
def nameT (m : List Int) : List UInt8 := if monT m 8 = [] then [49] else monT m 8
theorem nameT_len {m : List Int} (h : ∀ j, 0 ≤ m.getD j 0 ∧ m.getD j 0 ≤ 255) : (nameT m).length ≤ 160 := by
  unfold nameT
  split
  · simp
  · exact monT_len h 8
def termT (t : Term) : List UInt8 := (decL t.fac ++ [42]) ++ nameT t.mono
def textT (ts : List Term) : List UInt8 := if ts.length = 0 then [48] else Lib.join (ts.map termT) [43]
def preT (ts : List Term) : Nat → List UInt8
  | 0 => []
  | k + 1 => (if 0 < k then preT ts k ++ [43] else preT ts k) ++ termT (tm ts k)
theorem joinTail_app (sep : List UInt8) : ∀ (r : List (List UInt8)) (x : List UInt8), Lib.joinTail sep (r ++ [x]) = Lib.joinTail sep r ++ sep ++ x := fun r x => by
  unfold Lib.joinTail
  rw [List.map_append, List.flatten_append]
  simp
theorem join_app (sep x : List UInt8) : ∀ {r : List (List UInt8)}, r ≠ [] → Lib.join (r ++ [x]) sep = Lib.join r sep ++ sep ++ x
  | [], h => absurd rfl h
  | a :: r, _ => by
    rw [List.cons_append, Lib.join_cons, Lib.join_cons, joinTail_app]
    simp [List.append_assoc]
theorem preT_join {ts : List Term} : ∀ {k : Nat}, k ≤ ts.length → preT ts k = Lib.join ((ts.take k).map termT) [43]
  | 0, _ => by simp [preT, Lib.join_nil]
  | k + 1, h => by
    rw [stm_take (by omega), List.map_append, List.map_singleton]
    simp only [preT]
    by_cases hk : 0 < k
    · rw [if_pos hk, join_app _ _ (by intro e; have h9 := congrArg List.length e; rw [List.length_map, List.length_take_of_le (by omega)] at h9; simp only [List.length_nil] at h9; omega), ← preT_join (k := k) (by omega)]
    · obtain rfl : k = 0 := by omega
      rw [if_neg hk]
      simp [preT, Lib.join_one]
theorem preT_end (ts : List Term) (h : ¬ ts.length = 0) : preT ts ts.length = textT ts := by
  rw [preT_join (Nat.le_refl _), List.take_length]
  unfold textT
  rw [if_neg h]
theorem termT_len {ts : List Term} (hw : Wfs ts) (hf : ∀ i, i < ts.length → 0 ≤ (tm ts i).fac) {i : Nat} (hi : i < ts.length) : (termT (tm ts i)).length ≤ 200 := by
  have hm := hw (tm ts i) (by rw [← stm_eq hi]; exact List.getElem_mem hi)
  have h1 := decL_len (hf i hi) hm.fac.2
  have h2 := nameT_len hm.mono.bd
  unfold termT
  simp only [List.length_append, List.length_singleton]
  omega
theorem preT_len {ts : List Term} (hw : Wfs ts) (hf : ∀ i, i < ts.length → 0 ≤ (tm ts i).fac) : ∀ {k : Nat}, k ≤ ts.length → (preT ts k).length ≤ 201 * k
  | 0, _ => by simp [preT]
  | k + 1, h => by
    have h1 := preT_len hw hf (k := k) (by omega)
    have h2 := termT_len hw hf (i := k) (by omega)
    simp only [preT, List.length_append]
    split
    · simp only [List.length_append, List.length_singleton]; omega
    · omega
end Go.Proofs.YtbjhllmcnfncdaaDoor.G
