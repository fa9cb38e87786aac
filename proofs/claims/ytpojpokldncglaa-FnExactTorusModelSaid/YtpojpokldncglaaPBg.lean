/- A part of the walk of one law: what the functions compute. No condition. -/
import Derived.Test.YtpojpokldncglaaRows
import Derived.Test.YtpojpokldncglaaProg
import Derived.WalkKit
import Derived.KernelRfl
import Derived.JoinedOf
import Derived.Maps.AppendAt
import Derived.Still
import Derived.ProofKit
import Derived.OpenShut
import Derived.StillTail
import Derived.Deep.Upon
import Derived.WalkSpells
import Derived.Maps.Range
import Derived.DeepKeys4
import Derived.Test.YtpojpokldncglaaPBf
set_option linter.unusedVariables false
set_option linter.unusedSimpArgs false
namespace Go.Proofs.Ytpojpokldncglaa.G
open Go Go.RowKit
namespace Xo
theorem u2 : Try.prog.underlying 2 = some (TypeDesc.int .i64) := by kernel_rfl
theorem u22 : Try.prog.underlying 22 = some (TypeDesc.slice 2) := by kernel_rfl
theorem u27 : Try.prog.underlying 27 = some (TypeDesc.slice 88) := by kernel_rfl
theorem u29 : Try.prog.underlying 29 = some (TypeDesc.struct #[{ name := "Terms", type := 27, offset := 0, embedded := false, tag := "", pkgPath := "", byteOffset := 0 }]) := by kernel_rfl
theorem u39 : Try.prog.underlying 39 = some (TypeDesc.slice 29) := by kernel_rfl
theorem u41 : Try.prog.underlying 41 = some (TypeDesc.struct #[{ name := "Degrees", type := 22, offset := 0, embedded := false, tag := "", pkgPath := "", byteOffset := 0 }, { name := "Images", type := 39, offset := 1, embedded := false, tag := "", pkgPath := "", byteOffset := 24 }]) := by kernel_rfl
theorem u5 : Try.prog.underlying 5 = some (TypeDesc.int .u8) := by kernel_rfl
theorem u86 : Try.prog.underlying 86 = some (TypeDesc.array 8 5) := by kernel_rfl
theorem u88 : Try.prog.underlying 88 = some (TypeDesc.struct #[{ name := "Monomial", type := 86, offset := 0, embedded := false, tag := "", pkgPath := "", byteOffset := 0 }, { name := "Factor", type := 2, offset := 8, embedded := false, tag := "", pkgPath := "", byteOffset := 8 }]) := by kernel_rfl
theorem sz2 : Size Try.prog 2 1 := by unfold Size; kernel_rfl
theorem sz22 : Size Try.prog 22 1 := by unfold Size; kernel_rfl
theorem sz27 : Size Try.prog 27 1 := by unfold Size; kernel_rfl
theorem sz29 : Size Try.prog 29 1 := by unfold Size; kernel_rfl
theorem sz39 : Size Try.prog 39 1 := by unfold Size; kernel_rfl
theorem sz5 : Size Try.prog 5 1 := by unfold Size; kernel_rfl
theorem sz86 : Size Try.prog 86 8 := by unfold Size; kernel_rfl
theorem sz88 : Size Try.prog 88 9 := by unfold Size; kernel_rfl
theorem bz29 : ∀ w, (Instr.build 29 #[]).run Try.prog w = .ok (.agg [.slice none 0 0].toArray) w := fun _ => by kernel_rfl
theorem ze29 : Zero Try.prog 29 [.slice none 0 0] := by unfold Zero; kernel_rfl
theorem ze86 : Zero Try.prog 86 [.int .u8 0, .int .u8 0, .int .u8 0, .int .u8 0, .int .u8 0, .int .u8 0, .int .u8 0, .int .u8 0] := by unfold Zero; kernel_rfl
theorem pl2 : Plain Try.prog 2 := ⟨_, u2, rfl⟩
theorem pl22 : Plain Try.prog 22 := ⟨_, u22, rfl⟩
theorem pl27 : Plain Try.prog 27 := ⟨_, u27, rfl⟩
theorem pl39 : Plain Try.prog 39 := ⟨_, u39, rfl⟩
theorem pl5 : Plain Try.prog 5 := ⟨_, u5, rfl⟩
theorem ag29 : Agg Try.prog 29 1 := ⟨_, u29, rfl, by kernel_rfl⟩
theorem ag86 : Agg Try.prog 86 8 := ⟨_, u86, rfl, by kernel_rfl⟩
theorem fn148 : Fn Try.prog 148 := ⟨_, Try.func148, by kernel_rfl, rfl⟩
theorem fn149 : Fn Try.prog 149 := ⟨_, Try.func149, by kernel_rfl, rfl⟩
theorem fn150 : Fn Try.prog 150 := ⟨_, Try.func150, by kernel_rfl, rfl⟩
theorem fn151 : Fn Try.prog 151 := ⟨_, Try.func151, by kernel_rfl, rfl⟩
theorem fn72 : Fn Try.prog 72 := ⟨_, Try.func72, by kernel_rfl, rfl⟩
theorem foll0 : Try.prog.follows .mixedOrders = true := by kernel_rfl
end Xo
open Xo
def frK (p : Pw) (k j : Nat) : Pw := (List.range 8).map fun t => if t < j ∧ k ≤ t then 0 else p.getD t 0
def bkK (p : Pw) (k j : Nat) : Pw := (List.range 8).map fun t => if t < j ∧ t ≤ k then 0 else p.getD t 0
@[simp] theorem frK_len (p : Pw) (k j : Nat) : (frK p k j).length = 8 := by simp [frK]
@[simp] theorem bkK_len (p : Pw) (k j : Nat) : (bkK p k j).length = 8 := by simp [bkK]
theorem frK_get {p : Pw} {k j t : Nat} (h : t < 8) : (frK p k j).getD t 0 = if t < j ∧ k ≤ t then 0 else p.getD t 0 := by simp [frK, List.getD_eq_getElem?_getD, h]
theorem bkK_get {p : Pw} {k j t : Nat} (h : t < 8) : (bkK p k j).getD t 0 = if t < j ∧ t ≤ k then 0 else p.getD t 0 := by simp [bkK, List.getD_eq_getElem?_getD, h]
theorem frK_zero {p : Pw} (hp : p.length = 8) (k : Nat) : frK p k 0 = p := list8 (by simp) hp fun t ht => by rw [frK_get ht, if_neg (by omega)]
theorem bkK_zero {p : Pw} (hp : p.length = 8) (k : Nat) : bkK p k 0 = p := list8 (by simp) hp fun t ht => by rw [bkK_get ht, if_neg (by omega)]
theorem frK_end (p : Pw) (k : Nat) : frK p k 8 = aheadP p k := list8 (by simp) (by simp) fun t ht => by
  rw [frK_get ht, aheadP_get ht]
  by_cases h : t < k
  · rw [if_neg (by omega), if_pos h]
  · rw [if_pos (by omega), if_neg h]
theorem bkK_end (p : Pw) (k : Nat) : bkK p k 8 = behP p (k + 1) := list8 (by simp) (by simp) fun t ht => by
  rw [bkK_get ht, behP_get ht]
  by_cases h : t < k + 1
  · rw [if_pos (by omega), if_pos h]
  · rw [if_neg (by omega), if_neg h]
theorem frK_yes {p : Pw} {k j : Nat} (hj : j < 8) (h : k ≤ j) : (frK p k j).set j 0 = frK p k (j + 1) := list8 (by simp) (by simp) fun t ht => by
  rw [getD_set8, frK_get ht, frK_get ht]
  by_cases e : j = t
  · subst e
    rw [if_pos ⟨rfl, by simpa using hj⟩, if_pos (by omega)]
  · rw [if_neg fun h => e h.1]
    by_cases h2 : t < j ∧ k ≤ t
    · rw [if_pos h2, if_pos (by omega)]
    · rw [if_neg h2, if_neg (by omega)]
theorem frK_no {p : Pw} {k j : Nat} (h : ¬ k ≤ j) : frK p k j = frK p k (j + 1) := list8 (by simp) (by simp) fun t ht => by
  rw [frK_get ht, frK_get ht, if_neg (by omega), if_neg (by omega)]
theorem bkK_yes {p : Pw} {k j : Nat} (hj : j < 8) (h : j ≤ k) : (bkK p k j).set j 0 = bkK p k (j + 1) := list8 (by simp) (by simp) fun t ht => by
  rw [getD_set8, bkK_get ht, bkK_get ht]
  by_cases e : j = t
  · subst e
    rw [if_pos ⟨rfl, by simpa using hj⟩, if_pos (by omega)]
  · rw [if_neg fun h => e h.1]
    by_cases h2 : t < j ∧ t ≤ k
    · rw [if_pos h2, if_pos (by omega)]
    · rw [if_neg h2, if_neg (by omega)]
theorem bkK_no {p : Pw} {k j : Nat} (h : ¬ j ≤ k) : bkK p k j = bkK p k (j + 1) := list8 (by simp) (by simp) fun t ht => by
  rw [bkK_get ht, bkK_get ht]
  by_cases h2 : t < j ∧ t ≤ k
  · rw [if_pos h2, if_pos (by omega)]
  · rw [if_neg h2, if_neg (by omega)]
theorem aheadP_pok {M : Int} {p : Pw} (h : Pok M p) (k : Nat) : Pok M (aheadP p k) := ⟨by simp, fun j => by
  have := h.bd j
  rcases Nat.lt_or_ge j 8 with hj | hj
  · rw [aheadP_get hj]
    split <;> omega
  · rw [getD_ge (by simp; omega)]
    omega⟩
theorem Pok.mn {M : Int} {p : Pw} (h : Pok M p) (hM : M ≤ 255) : Mono p := ⟨h.len, (h.mono hM).bd⟩
theorem wsum_ahead {ds p : Pw} {k : Nat} : ∀ {n : Nat}, n ≤ 8 → wsum ds (aheadP p k) n = wsum ds p (min n k)
  | 0, _ => by simp [wsum]
  | n + 1, h => by
    simp only [wsum]
    rw [wsum_ahead (by omega), aheadP_get (by omega)]
    by_cases hk : n < k
    · rw [if_pos hk, Nat.min_eq_left (by omega), Nat.min_eq_left (by omega)]
      rfl
    · rw [if_neg hk, Nat.min_eq_right (by omega), Nat.min_eq_right (by omega), Int.mul_zero, Int.add_zero]
theorem dsg_wsum {ds p : Pw} (hd : ∀ j, 0 ≤ ds.getD j 0 ∧ ds.getD j 0 ≤ 12) (hp : ∀ j, 0 ≤ p.getD j 0) : ∀ {k : Nat}, k ≤ ds.length → dsg ds p k = if wsum ds p k % 2 = 1 then -1 else 1
  | 0, _ => by simp [dsg, wsum]
  | k + 1, h => by
    have ih := dsg_wsum hd hp (k := k) (by omega)
    have e1 := Int.tmod_eq_emod_of_nonneg (b := 2) (hd k).1
    have e2 := Int.tmod_eq_emod_of_nonneg (b := 2) (hp k)
    have em := Int.mul_emod (ds.getD k 0) (p.getD k 0) 2
    have e : wsum ds p (k + 1) = wsum ds p k + ds.getD k 0 * p.getD k 0 := rfl
    by_cases hc : (ds.getD k 0).tmod 2 = 1 ∧ (p.getD k 0).tmod 2 = 1
    · rw [show ds.getD k 0 % 2 = 1 by omega, show p.getD k 0 % 2 = 1 by omega] at em
      rw [← dsg_yes (by omega) hc.1 hc.2, ih]
      by_cases c : wsum ds p k % 2 = 1
      · rw [if_pos c, if_neg (by omega)]; rfl
      · rw [if_neg c, if_pos (by omega)]; rfl
    · have em2 : (ds.getD k 0 * p.getD k 0) % 2 = 0 := by
        rcases (show ds.getD k 0 % 2 = 0 ∨ ds.getD k 0 % 2 = 1 by omega) with a | a <;> rcases (show p.getD k 0 % 2 = 0 ∨ p.getD k 0 % 2 = 1 by omega) with b | b <;> rw [a, b] at em <;> omega
      rw [← dsg_no (fun h => hc h.2), ih]
      by_cases c : wsum ds p k % 2 = 1
      · rw [if_pos c, if_pos (by omega)]
      · rw [if_neg c, if_neg (by omega)]
theorem wsum_nn {ds p : Pw} (hd : ∀ j, 0 ≤ ds.getD j 0 ∧ ds.getD j 0 ≤ 12) (hp : ∀ j, 0 ≤ p.getD j 0) : ∀ k, 0 ≤ wsum ds p k
  | 0 => by simp [wsum]
  | k + 1 => by
    have h1 := wsum_nn hd hp k
    have h2 := Int.mul_nonneg (hd k).1 (hp k)
    simp only [wsum]
    omega
theorem sg_neg {ds p : Pw} {k : Nat} (hn : ds.length ≤ 8) (hd : ∀ j, 0 ≤ ds.getD j 0 ∧ ds.getD j 0 ≤ 12) (hp : ∀ j, 0 ≤ p.getD j 0) (hk : k < ds.length) (h : (wsum ds (aheadP p k) ds.length).tmod 2 ≠ 0) : dsg ds p k = -1 := by
  rw [wsum_ahead hn, Nat.min_eq_right (by omega)] at h
  rw [dsg_wsum hd hp (by omega), if_pos]
  have := Int.tmod_eq_emod_of_nonneg (b := 2) (show 0 ≤ wsum ds p k from wsum_nn hd hp k)
  omega
theorem sg_pos {ds p : Pw} {k : Nat} (hn : ds.length ≤ 8) (hd : ∀ j, 0 ≤ ds.getD j 0 ∧ ds.getD j 0 ≤ 12) (hp : ∀ j, 0 ≤ p.getD j 0) (hk : k < ds.length) (h : ¬ (wsum ds (aheadP p k) ds.length).tmod 2 ≠ 0) : dsg ds p k = 1 := by
  rw [wsum_ahead hn, Nat.min_eq_right (by omega)] at h
  rw [dsg_wsum hd hp (by omega), if_neg]
  have := Int.tmod_eq_emod_of_nonneg (b := 2) (show 0 ≤ wsum ds p k from wsum_nn hd hp k)
  omega
theorem addS_one (p : Pw) : addS [] p 1 = [(p, 1)] := by
  simp only [addS]
  rw [fld_id (by omega), if_neg (by omega)]
theorem one_wf {p : Pw} (h : Mono p) : Wfs (ofS (addS [] p 1)) := by
  rw [addS_one]
  exact fun t ht => by
    simp [ofS] at ht
    subst ht
    exact ⟨⟨h.len, h.bd⟩, by show -9223372036854775808 ≤ (1 : Int) ∧ (1 : Int) ≤ 9223372036854775807; omega⟩
theorem one_g {M : Int} {p : Pw} (h : Pok M p) : Gok M (toS (ofS (addS [] p 1))) := by
  rw [toS_ofS, addS_one]
  exact (Sok.one h (by omega)).g
theorem one_kex {ds p : Pw} (h : Ex ds p) : KEx ds (toS (ofS (addS [] p 1))) := by
  rw [toS_ofS, addS_one]
  intro x hx
  simp at hx
  rw [hx]
  exact h
theorem one_len (p : Pw) : (ofS (addS [] p 1)).length = 1 := by rw [addS_one]; rfl
theorem Ex.le {ds p q : Pw} (h : Ex ds p) (hq : ∀ j, 0 ≤ q.getD j 0 ∧ q.getD j 0 ≤ p.getD j 0) : Ex ds q :=
  ⟨fun i hi => by have := h.out i hi; have := hq i; omega, fun i hi ho => by have := h.odd i hi ho; have := hq i; omega⟩
theorem leftP_ex {ds p : Pw} {M : Int} (hp : Pok M p) (h : Ex ds p) {k : Nat} (hk : 0 < p.getD k 0) : Ex ds (leftP p k) := h.le fun j => by
  have b := hp.bd j
  have c := hp.bd k
  unfold leftP
  rw [getD_set8]
  split
  · rename_i e
    rw [← e.1]
    omega
  · rcases Nat.lt_or_ge j 8 with hj | hj
    · rw [aheadP_get hj]
      split <;> omega
    · rw [getD_ge (by simp; omega)]
      omega
theorem behP_ex {ds p : Pw} {M : Int} (hp : Pok M p) (h : Ex ds p) (k : Nat) : Ex ds (behP p k) := h.le fun j => by
  have b := hp.bd j
  rcases Nat.lt_or_ge j 8 with hj | hj
  · rw [behP_get hj]
    split <;> omega
  · rw [getD_ge (by simp; omega)]
    omega
theorem dT_len (ds : Pw) (im : Sm) (p : Pw) (k : Nat) : (dT ds im p k).length ≤ im.length := by
  unfold dT
  have h1 := times_len ds (timesS ds [(leftP p k, 1)] im) [(behP p (k + 1), 1)]
  have h2 := times_len ds [(leftP p k, 1)] im
  simp only [List.length_singleton] at h1 h2
  omega
theorem dP_len {ds : Pw} {fs : List (List Term)} {x : Pw × Int} {k : Nat} (hL : ∀ i, i < fs.length → (fm fs i).length ≤ 10000) (hk : 0 < x.1.getD k 0 → k < fs.length) : (dP ds fs x k).length ≤ 10000 := by
  unfold dP
  split
  · rename_i h
    have h1 := dT_len ds (toS (fm fs k)) x.1 k
    have h2 := hL k (hk h)
    rw [toS_len] at h1
    unfold scl
    rw [List.length_map]
    omega
  · simp
theorem dLk_len {ds : Pw} {fs : List (List Term)} {x : Pw × Int} (hL : ∀ i, i < fs.length → (fm fs i).length ≤ 10000) (ho : ∀ k, 0 < x.1.getD k 0 → k < fs.length) : ∀ k, (dLk ds fs x k).length ≤ k * 10000
  | 0 => by simp [dLk]
  | k + 1 => by
    have h1 := dLk_len (ds := ds) hL ho k
    have h2 := dP_len (ds := ds) hL (ho k)
    rw [dLk_succ, List.length_append]
    omega
theorem dAll_len {ds : Pw} {fs : List (List Term)} (hL : ∀ i, i < fs.length → (fm fs i).length ≤ 10000) : ∀ {s : Sm}, Occ fs.length s → (dAll ds fs s).length ≤ s.length * 80000
  | [], _ => by simp [dAll]
  | x :: s, ho => by
    have h1 := dAll_len (ds := ds) hL (s := s) fun y hy => ho y (by simp [hy])
    have h2 := dLk_len (ds := ds) hL (ho x (by simp)) 8
    unfold dAll at h1 ⊢
    rw [List.flatMap_cons, List.length_append, List.length_cons]
    omega
theorem dAll_take {ds : Pw} {fs : List (List Term)} {f : List Term} {i : Nat} (hi : i < f.length) : dAll ds fs (toS (f.take (i + 1))) = dAll ds fs (toS (f.take i)) ++ dLk ds fs ((tm f i).mono, (tm f i).fac) 8 := by
  rw [toS_take hi]
  unfold dAll
  rw [List.flatMap_append]
  simp
theorem dLk_same {ds : Pw} {fs : List (List Term)} {x : Pw × Int} {n : Nat} (h : ∀ k, n ≤ k → x.1.getD k 0 = 0) : ∀ m, dLk ds fs x (n + m) = dLk ds fs x n
  | 0 => rfl
  | m + 1 => by
    rw [← Nat.add_assoc, dLk_succ, dLk_same h m]
    unfold dP
    rw [if_neg (by rw [h _ (by omega)]; omega), List.append_nil]
theorem dLk_8 {ds : Pw} {fs : List (List Term)} {x : Pw × Int} (hn : ds.length ≤ 8) (h : Ex ds x.1) : dLk ds fs x ds.length = dLk ds fs x 8 := by
  rw [← dLk_same (ds := ds) (fs := fs) (x := x) (n := ds.length) h.out (8 - ds.length), Nat.add_sub_cancel' hn]
theorem Ex.occ {ds : Pw} {s : Sm} {n : Nat} (h : KEx ds s) (hl : n = ds.length) : Occ n s := fun x hx i hi => by
  have := (h x hx).out i
  omega
theorem toS_tk (ts : List Term) (k : Nat) : toS (ts.take k) = (toS ts).take k := by simp [toS, List.map_take]
theorem Sok.tk {M : Int} {ts : List Term} (h : Sok M (toS ts)) (k : Nat) : Sok M (toS (ts.take k)) := by
  rw [toS_tk]
  exact ⟨h.srt.sublist (List.take_sublist _ _), fun x hx => h.key x (List.mem_of_mem_take hx), fun x hx => h.val x (List.mem_of_mem_take hx)⟩
theorem Occ.tk {n : Nat} {ts : List Term} (h : Occ n (toS ts)) (k : Nat) : Occ n (toS (ts.take k)) := by
  rw [toS_tk]
  exact fun x hx => h x (List.mem_of_mem_take hx)
theorem d1_sok {ad : Pw} {af : List (List Term)} {f : List Term} {Mi Ms : Int} (hf : Fok Mi af) (hs : Sok Ms (toS f)) (ho : Occ af.length (toS f)) (i : Nat) : Sok (Ms + Mi + Ms) (acc [] (dAll ad af (toS (f.take i)))) := Sok.nil.acc (dAll_pok (hs.tk i) hf (ho.tk i))
theorem d2_sok {ad : Pw} {af : List (List Term)} {f : List Term} {Mi Ms : Int} (hf : Fok Mi af) (hs : Sok Ms (toS f)) (ho : Occ af.length (toS f)) {i : Nat} (hi : i < f.length) (k : Nat) : Sok (Ms + Mi + Ms) (acc [] (dAll ad af (toS (f.take i)) ++ dLk ad af ((tm f i).mono, (tm f i).fac) k)) := Sok.nil.acc fun z hz => by
  rcases List.mem_append.1 hz with h | h
  · exact dAll_pok (hs.tk i) hf (ho.tk i) z h
  · exact dLk_pok (hs.key _ (toS_at hi)) hf (ho _ (toS_at hi)) z h
theorem d2_len {ad : Pw} {af : List (List Term)} {f : List Term} (hL : ∀ i, i < af.length → (fm af i).length ≤ 10000) (ho : Occ af.length (toS f)) (hlf : f.length ≤ 10000) {i k : Nat} (hi : i < f.length) (hk : k ≤ 8) : (acc [] (dAll ad af (toS (f.take i)) ++ dLk ad af ((tm f i).mono, (tm f i).fac) k)).length ≤ 900000000 := by
  have h1 := acc_len (dAll ad af (toS (f.take i)) ++ dLk ad af ((tm f i).mono, (tm f i).fac) k) []
  have h2 := dAll_len (ds := ad) hL (ho.tk i)
  have h3 := dLk_len (ds := ad) hL (ho _ (toS_at hi)) k
  rw [toS_len, List.length_take_of_le (by omega)] at h2
  rw [List.length_append, List.length_nil] at h1
  omega
theorem fac_neg {ds p : Pw} {k : Nat} {x : Int} (h : dsg ds p k = -1) : fld (dsg ds p k * x * p.getD k 0) = fld (0 - x * p.getD k 0) := by rw [h]; simp only [Int.neg_mul, Int.one_mul, Int.zero_sub]
theorem fac_pos {ds p : Pw} {k : Nat} {x : Int} (h : dsg ds p k = 1) : fld (dsg ds p k * x * p.getD k 0) = fld (x * p.getD k 0) := by rw [h, Int.one_mul]
set_option maxHeartbeats 8000000 in
set_option maxRecDepth 10000 in
theorem l02D_c {B : World} {H0 H : HP} {L : List SA} {w : World} {qad qaf : Option Addr} {cad caf : Nat} {ad : List Int} {af : List (List Term)} {qf : Option Addr} {cf : Nat} {f : List Term} {Mi Ms : Int} (had : Ints H qad ad) (haf : Forms H qaf af) (hf : Terms H qf f) (hn : ad.length ≤ 8) (hd : ∀ j, 0 ≤ ad.getD j 0 ∧ ad.getD j 0 ≤ 12) (hf9 : Fok Mi af) (hl : af.length = ad.length) (hk9 : ∀ i, i < af.length → KEx ad (toS (fm af i))) (hs : Sok Ms (toS f)) (hfk : KEx ad (toS f)) (hM : 0 ≤ Mi ∧ 0 ≤ Ms ∧ Ms + Mi + Ms ≤ 255) (hL : ∀ i, i < af.length → (fm af i).length ≤ 10000) (hlf : f.length ≤ 10000) (hH : Hp B H0 H L w) :
    Calls Try.prog 98 [.agg [.slice qad ad.length cad, .slice qaf af.length caf].toArray, .agg [.slice qf f.length cf].toArray].toArray w fun e w' => ∃ q c, e = .returned (.agg [.slice q (ofS (dS ad af (toS f))).length c].toArray) ∧ Hp B H0 H (own 88 9 q (ofS (dS ad af (toS f))).length c (tsC (ofS (dS ad af (toS f)))) :: L) w' := by
  refine CJ.enter Try.func98 rfl 103 rfl rfl [(0, .agg [.slice qad ad.length cad, .slice qaf af.length caf].toArray), (1, .agg [.slice qf f.length cf].toArray)] rfl hH ?_
  clear hH
  have hoc := Ex.occ hfk hl
  refine CJ.seq fun _ hK1 _ => ?_
  refine CJ.region ?_
  refine J.box rfl rfl rfl fun g2 => ?_
  refine J.box rfl rfl rfl fun g3 => ?_
  refine J.alloc ze29 rfl fun g4 => ?_
  refine J.nil ?_
  refine EJ.thenN (hK1 ?_)
  refine CJ.seq fun _ hK2 _ => ?_
  refine CJ.region ?_
  refine J.own0 88 9 ?_
  refine J.p (PR.buildZ bz29) rfl ?_
  refine J.alloc ze29 rfl fun g5 => ?_
  refine J.storeAll rfl rfl (by first | exact bytesC_one _ | exact intsC_one _ | exact Term.c_one _ | simp [Value.oneCell']) (by simpa [*] using sz29) (by simp [*]) At.z ?_
  refine J.nil ?_
  refine EJ.thenN (hK2 ?_)
  refine CJ.seq fun _ hK3 _ => ?_
  refine CJ.seq fun _ hK4 _ => ?_
  refine CJ.region ?_
  refine J.p (PR.assign rfl) rfl ?_
  refine J.nil ?_
  refine EJ.thenN (hK4 ?_)
  refine CJ.block ?_
  refine CJ.loopU (σ := Option Addr × Nat × Nat) (fun ⟨q, c, i⟩ => [(6, .int .i64 (i : Int))]) (fun ⟨q, c, i⟩ => H) (fun ⟨q, c, i⟩ => obj g5 (.cells [.slice q (ofS (acc [] (dAll ad af (toS (f.take i))))).length c].toArray 29 (0, 0)) :: own 88 9 q (ofS (acc [] (dAll ad af (toS (f.take i))))).length c (tsC (ofS (acc [] (dAll ad af (toS (f.take i)))))) :: obj g4 (.cells [.slice none 0 0].toArray 29 (0, 0)) :: obj g3 (.cells [.slice qf f.length cf].toArray 29 (0, 0)) :: obj g2 (.cells [.slice qad ad.length cad, .slice qaf af.length caf].toArray 41 (0, 0)) :: L) (fun ⟨q, c, i⟩ => i ≤ f.length) (fun ⟨q, c, i⟩ => f.length - i) (none, 0, 0) (by show 0 ≤ f.length; omega) ⟨rfl, trivial⟩ rfl rfl ?_
  rintro ⟨q, c, i⟩ hI _ hAg0
  have hi := hI
  have wfO := (d1_sok (ad := ad) hf9 hs hoc i).wf (by omega)
  refine CJ.seq fun _ hK5 _ => ?_
  refine CJ.seq fun _ hK6 _ => ?_
  refine CJ.region ?_
  refine J.p (PR.move rfl) rfl ?_
  refine J.p (PR.fldA u29 rfl sz27 rfl) rfl ?_
  refine J.p (PR.load rfl (.s (.s (.s .z))) rfl pl27) rfl ?_
  refine J.p (PR.lenSlice u27 rfl rfl) rfl ?_
  refine J.p (PR.lss rfl rfl) rfl ?_
  refine J.nil ?_
  refine EJ.thenN (hK6 ?_)
  refine CJ.condD rfl (fun h20 => ?_) (fun h20 => ?_)
  ·
    have hxi := toS_at (ts := f) (k := i) (by omega)
    have hxp := hs.key _ hxi
    have hxv := hs.val _ hxi
    have hxe := hfk _ hxi
    simp only at hxp hxv hxe
    have hx8 := hxp.len
    have hxn : ∀ j, 0 ≤ (tm f i).mono.getD j 0 := fun j => (hxp.bd j).1
    refine CJ.skip ?_
    refine EJ.thenN (hK5 ?_)
    refine CJ.seq fun _ hK7 _ => ?_
    refine CJ.block ?_
    refine CJ.seq fun _ hK8 _ => ?_
    refine CJ.region ?_
    refine J.p (PR.fldA u29 rfl sz27 rfl) rfl ?_
    refine J.p (PR.load rfl (.s (.s (.s .z))) rfl pl27) rfl ?_
    refine J.p (PR.move rfl) rfl ?_
    refine J.p (PR.idx u27 sz88 rfl rfl rfl (by omega) hf.sm) rfl ?_
    refine J.p (PR.fldP u88 rfl sz86 rfl (hf.sm (i := i) (by omega))) rfl ?_
    refine J.p (PR.loadHagg rfl (hf.mono (by omega)) (hf.sm (i := i) (by omega)) (by rw [bytesC_length, (hf.wf _ (by omega)).mono.len]; exact ag86)) rfl ?_
    refine J.alloc ze86 rfl fun g7 => ?_
    refine J.storeAll rfl rfl (by first | exact bytesC_one _ | exact intsC_one _ | exact Term.c_one _ | simp [Value.oneCell']) (by simpa [*] using sz86) (by simp [*]) At.z ?_
    refine J.nil ?_
    refine EJ.thenN (hK8 ?_)
    refine CJ.seq fun _ hK9 _ => ?_
    refine CJ.region ?_
    refine J.p (PR.assign rfl) rfl ?_
    refine J.nil ?_
    refine EJ.thenN (hK9 ?_)
    refine CJ.block ?_
    refine CJ.loopU (σ := Option Addr × Nat × Nat) (fun ⟨q1, c1, k⟩ => [(8, .int .i64 (k : Int))]) (fun ⟨q1, c1, k⟩ => H) (fun ⟨q1, c1, k⟩ => obj g7 (.cells (bytesC ((tm f i).mono)).toArray 86 (0, 0)) :: obj g5 (.cells [.slice q1 (ofS (acc [] (dAll ad af (toS (f.take i)) ++ dLk ad af ((tm f i).mono, (tm f i).fac) k))).length c1].toArray 29 (0, 0)) :: own 88 9 q1 (ofS (acc [] (dAll ad af (toS (f.take i)) ++ dLk ad af ((tm f i).mono, (tm f i).fac) k))).length c1 (tsC (ofS (acc [] (dAll ad af (toS (f.take i)) ++ dLk ad af ((tm f i).mono, (tm f i).fac) k)))) :: obj g4 (.cells [.slice none 0 0].toArray 29 (0, 0)) :: obj g3 (.cells [.slice qf f.length cf].toArray 29 (0, 0)) :: obj g2 (.cells [.slice qad ad.length cad, .slice qaf af.length caf].toArray 41 (0, 0)) :: L) (fun ⟨q1, c1, k⟩ => k ≤ ad.length) (fun ⟨q1, c1, k⟩ => ad.length - k) (q, c, 0) (by show 0 ≤ ad.length; omega) ⟨rfl, trivial⟩ rfl (by simp only [dLk, List.range_zero, List.flatMap_nil, List.append_nil]) ?_
    rintro ⟨q1, c1, k⟩ hkI _ hAg1
    have hk := hkI
    have wfO := (d2_sok (ad := ad) hf9 hs hoc (i := i) (by omega) k).wf (by omega)
    refine CJ.seq fun _ hK10 _ => ?_
    refine CJ.seq fun _ hK11 _ => ?_
    refine CJ.region ?_
    refine J.p (PR.move rfl) rfl ?_
    refine J.p (PR.fldA u41 rfl sz22 rfl) rfl ?_
    refine J.p (PR.load rfl (.s (.s (.s (.s (.s .z))))) rfl pl22) rfl ?_
    refine J.p (PR.lenSlice u22 rfl rfl) rfl ?_
    refine J.p (PR.lss rfl rfl) rfl ?_
    refine J.nil ?_
    refine EJ.thenN (hK11 ?_)
    refine CJ.condD rfl (fun h33 => ?_) (fun h33 => ?_)
    ·
      have hkl : k < af.length := by omega
      have hpk := hxp.bd k
      refine CJ.skip ?_
      refine EJ.thenN (hK10 ?_)
      refine CJ.seq fun _ hK12 _ => ?_
      refine CJ.block ?_
      refine CJ.seq fun _ hK13 _ => ?_
      refine CJ.seq fun _ hK14 _ => ?_
      refine CJ.region ?_
      refine J.p (PR.move rfl) rfl ?_
      refine J.p (PR.idxA1 u86 sz5 rfl rfl rfl (by omega)) rfl ?_
      refine J.p (PR.load rfl At.z (bytesC_get (by omega)) pl5) rfl ?_
      refine J.p (PR.eql rfl rfl) rfl ?_
      refine J.nil ?_
      refine EJ.thenN (hK14 ?_)
      refine CJ.condD rfl (fun h39 => ?_) (fun h39 => ?_)
      ·
        refine CJ.exit ?_
        refine EJ.thenE ?_
        refine EJ.inE ?_
        refine EJ.thenN (hK12 ?_)
        refine CJ.region ?_
        refine J.p (PR.move rfl) rfl ?_
        refine J.p (PR.add rfl rfl (by first | exact nw _ (by omega) | rfl)) rfl ?_
        refine J.p (PR.assign rfl) rfl ?_
        refine J.nil ?_
        refine EJ.thenN ?_
        exact hAg1 (q1, c1, k + 1) (by show k + 1 ≤ ad.length; omega) (by show ad.length - (k + 1) < ad.length - k; omega) 13 rfl rfl ⟨rfl, trivial⟩ rfl (by simp only [acc_dN (ds := ad) (fs := af) (x := ((tm f i).mono, (tm f i).fac)) (k := k) (show ¬ 0 < (tm f i).mono.getD k 0 by omega)])
      ·
        have hpos : 0 < (tm f i).mono.getD k 0 := by omega
        have hlp := leftP_pok hxp hpos
        have hfp := aheadP_pok hxp k
        have hbp := behP_pok hxp (k + 1)
        have hlm := hlp.mn (by omega)
        have hfm := hfp.mn (by omega)
        have hbm := hbp.mn (by omega)
        have hle := leftP_ex hxp hxe hpos
        have hbe := behP_ex hxp hxe (k + 1)
        have mb := mul_sb (b := (tm f i).mono.getD k 0) (B := 255) (show -10006 ≤ (tm f i).fac ∧ (tm f i).fac ≤ 10006 by omega) (by omega)
        have gt1 := gtimes (ds := ad) (Sok.one hlp (k := 1) (by omega)).g (hf9 k hkl).1.g
        have gt2 := gtimes (ds := ad) (gt1.g) (Sok.one hbp (k := 1) (by omega)).g
        have l9 := hL k hkl
        have l8 := d2_len (ad := ad) hL hoc hlf (i := i) (k := k) (by omega) (by omega)
        refine CJ.skip ?_
        refine EJ.thenN (hK13 ?_)
        refine CJ.seq fun _ hK15 _ => ?_
        refine CJ.openR (Rs := [_, _, _, _, _, _]) 6 [[], [], [], [], [0, 2, 3], [0, 1, 2, 3, 4]] [[6], [6], [], [], [], []] [[], [], [], [], [2], [3]] rfl rfl (by kernel_rfl) ?_
        apply GJ.st0 1 rfl
        · intro gh; conv => lhs; simp only [slotsZ, zlAt, vs0, resL, at2, eq_self, Nat.reduceEqDiff, reduceIte, Nat.reduceSub, Nat.reduceAdd, List.cons_append, List.nil_append]
          all_goals rfl
        · intro gh X; conv => lhs; simp only [slotsZ, zlAt, vs0, resL, at2, eq_self, Nat.reduceEqDiff, reduceIte, Nat.reduceSub, Nat.reduceAdd, List.cons_append, List.nil_append]
          all_goals rfl
        · intro gh X; conv => lhs; simp only [slotsZ, zlAt, vs0, resL, at2, eq_self, Nat.reduceEqDiff, reduceIte, Nat.reduceSub, Nat.reduceAdd, List.cons_append, List.nil_append]
          all_goals rfl
        ·
          intro gh X K zq zc zq2 zc2 zb zv hK
          refine J.p (PR.loadAll rfl At.z (by simpa [*] using ag86)) rfl ?_
          refine J.nilK ?_
          exact hK zq zc zq2 zc2 zb zv
        ·
          intro gh gh' h
          rfl
        apply GJ.st0 2 rfl
        · intro gh; conv => lhs; simp only [slotsZ, zlAt, vs0, resL, at2, eq_self, Nat.reduceEqDiff, reduceIte, Nat.reduceSub, Nat.reduceAdd, List.cons_append, List.nil_append]
          all_goals rfl
        · intro gh X; conv => lhs; simp only [slotsZ, zlAt, vs0, resL, at2, eq_self, Nat.reduceEqDiff, reduceIte, Nat.reduceSub, Nat.reduceAdd, List.cons_append, List.nil_append]
          all_goals rfl
        · intro gh X; conv => lhs; simp only [slotsZ, zlAt, vs0, resL, at2, eq_self, Nat.reduceEqDiff, reduceIte, Nat.reduceSub, Nat.reduceAdd, List.cons_append, List.nil_append]
          all_goals rfl
        ·
          intro gh X K zq zc zq2 zc2 zb zv hK
          refine J.p (PR.loadAll rfl At.z (by simpa [*] using ag86)) rfl ?_
          refine J.nilK ?_
          exact hK zq zc zq2 zc2 zb zv
        ·
          intro gh gh' h
          rfl
        apply GJ.st1 3 rfl
        · intro gh; conv => lhs; simp only [slotsZ, zlAt, vs0, resL, at2, eq_self, Nat.reduceEqDiff, reduceIte, Nat.reduceSub, Nat.reduceAdd, List.cons_append, List.nil_append]
          all_goals rfl
        · intro gh X; conv => lhs; simp only [slotsZ, zlAt, vs0, resL, at2, eq_self, Nat.reduceEqDiff, reduceIte, Nat.reduceSub, Nat.reduceAdd, List.cons_append, List.nil_append]
          all_goals rfl
        · intro gh X; conv => lhs; simp only [slotsZ, zlAt, vs0, resL, at2, eq_self, Nat.reduceEqDiff, reduceIte, Nat.reduceSub, Nat.reduceAdd, List.cons_append, List.nil_append]
          all_goals rfl
        ·
          intro gh X K zq zc zq2 zc2 zb zv hK
          refine J.alloc ze86 rfl fun g9 => ?_
          refine J.nilK ?_
          exact hK zq zc zq2 zc2 g9 zv
        ·
          intro gh gh' h
          refine ⟨?_, ?_⟩ <;> rfl
        apply GJ.st1 4 rfl
        · intro gh; conv => lhs; simp only [slotsZ, zlAt, vs0, resL, at2, eq_self, Nat.reduceEqDiff, reduceIte, Nat.reduceSub, Nat.reduceAdd, List.cons_append, List.nil_append]
          all_goals rfl
        · intro gh X; conv => lhs; simp only [slotsZ, zlAt, vs0, resL, at2, eq_self, Nat.reduceEqDiff, reduceIte, Nat.reduceSub, Nat.reduceAdd, List.cons_append, List.nil_append]
          all_goals rfl
        · intro gh X; conv => lhs; simp only [slotsZ, zlAt, vs0, resL, at2, eq_self, Nat.reduceEqDiff, reduceIte, Nat.reduceSub, Nat.reduceAdd, List.cons_append, List.nil_append]
          all_goals rfl
        ·
          intro gh X K zq zc zq2 zc2 zb zv hK
          refine J.alloc ze86 rfl fun g10 => ?_
          refine J.nilK ?_
          exact hK zq zc zq2 zc2 g10 zv
        ·
          intro gh gh' h
          refine ⟨?_, ?_⟩ <;> rfl
        apply GJ.sn1 5 rfl
        · intro gh; conv => lhs; simp only [slotsZ, zlAt, vs0, resL, at2, eq_self, Nat.reduceEqDiff, reduceIte, Nat.reduceSub, Nat.reduceAdd, List.cons_append, List.nil_append]
          all_goals rfl
        · intro gh X; conv => lhs; simp only [slotsZ, zlAt, vs0, resL, at2, eq_self, Nat.reduceEqDiff, reduceIte, Nat.reduceSub, Nat.reduceAdd, List.cons_append, List.nil_append]
          all_goals rfl
        · intro gh X; conv => lhs; simp only [slotsZ, zlAt, vs0, resL, at2, eq_self, Nat.reduceEqDiff, reduceIte, Nat.reduceSub, Nat.reduceAdd, List.cons_append, List.nil_append]
          all_goals rfl
        ·
          intro gh X K hK
          refine J.storeAll rfl rfl (by first | exact bytesC_one _ | exact intsC_one _ | exact Term.c_one _ | simp [Value.oneCell']) (by simpa [*] using sz86) (by simp [*]) At.z ?_
          refine J.nilK ?_
          exact hK
        ·
          intro gh gh' h
          first | simp only [h 2 rfl, h 3 rfl] | rfl
        apply GJ.sn1 6 rfl
        · intro gh; conv => lhs; simp only [slotsZ, zlAt, vs0, resL, at2, eq_self, Nat.reduceEqDiff, reduceIte, Nat.reduceSub, Nat.reduceAdd, List.cons_append, List.nil_append]
          all_goals rfl
        · intro gh X; conv => lhs; simp only [slotsZ, zlAt, vs0, resL, at2, eq_self, Nat.reduceEqDiff, reduceIte, Nat.reduceSub, Nat.reduceAdd, List.cons_append, List.nil_append]
          all_goals rfl
        · intro gh X; conv => lhs; simp only [slotsZ, zlAt, vs0, resL, at2, eq_self, Nat.reduceEqDiff, reduceIte, Nat.reduceSub, Nat.reduceAdd, List.cons_append, List.nil_append]
          all_goals rfl
        ·
          intro gh X K hK
          refine J.storeAll rfl rfl (by first | exact bytesC_one _ | exact intsC_one _ | exact Term.c_one _ | simp [Value.oneCell']) (by simpa [*] using sz86) (by simp [*]) At.z ?_
          refine J.nilK ?_
          exact hK
        ·
          intro gh gh' h
          first | simp only [h 2 rfl, h 3 rfl] | rfl
        apply GJ.close [0, 1, 2, 3, 4, 5] [0, 1, 4, 5, 6, 7, 8, 9, 10, 11] foll0 rfl rfl rfl (by rfl)
        · intro gh; conv => lhs; simp only [slotsZ, zlAt, vs0, resL, at2, eq_self, Nat.reduceEqDiff, reduceIte, Nat.reduceSub, Nat.reduceAdd, List.cons_append, List.nil_append]
          all_goals rfl
        · intro gh; conv => lhs; simp only [slotsZ, zlAt, vs0, resL, at2, eq_self, Nat.reduceEqDiff, reduceIte, Nat.reduceSub, Nat.reduceAdd, List.cons_append, List.nil_append]
          all_goals rfl
        intro gh
        generalize (gh 2).b = g9
        generalize (gh 3).b = g10
        clear gh
        refine EJ.thenN (hK15 ?_)
        refine CJ.seq fun _ hK16 _ => ?_
        refine CJ.seq fun _ hK17 _ => ?_
        refine CJ.region ?_
        refine J.p (PR.assign rfl) rfl ?_
        refine J.nil ?_
        refine EJ.thenN (hK17 ?_)
        refine CJ.block ?_
        refine CJ.loopU (σ := Nat) (fun (j : Nat) => [(11, .int .i64 (j : Int))]) (fun (j : Nat) => H) (fun (j : Nat) => obj g9 (.cells (bytesC (frK (tm f i).mono k j)).toArray 86 (0, 0)) :: obj g10 (.cells (bytesC (bkK (tm f i).mono k j)).toArray 86 (0, 0)) :: obj g7 (.cells (bytesC ((tm f i).mono)).toArray 86 (0, 0)) :: obj g5 (.cells [.slice q1 (ofS (acc [] (dAll ad af (toS (f.take i)) ++ dLk ad af ((tm f i).mono, (tm f i).fac) k))).length c1].toArray 29 (0, 0)) :: own 88 9 q1 (ofS (acc [] (dAll ad af (toS (f.take i)) ++ dLk ad af ((tm f i).mono, (tm f i).fac) k))).length c1 (tsC (ofS (acc [] (dAll ad af (toS (f.take i)) ++ dLk ad af ((tm f i).mono, (tm f i).fac) k)))) :: obj g4 (.cells [.slice none 0 0].toArray 29 (0, 0)) :: obj g3 (.cells [.slice qf f.length cf].toArray 29 (0, 0)) :: obj g2 (.cells [.slice qad ad.length cad, .slice qaf af.length caf].toArray 41 (0, 0)) :: L) (fun (j : Nat) => j ≤ 8) (fun (j : Nat) => 8 - j) 0 (by omega) ⟨rfl, trivial⟩ rfl (by rw [bkK_zero hx8, frK_zero hx8]) ?_
        rintro j hj _ hAg2
        refine CJ.seq fun _ hK18 _ => ?_
        refine CJ.seq fun _ hK19 _ => ?_
        refine CJ.region ?_
        refine J.p (PR.move rfl) rfl ?_
        refine J.p (PR.lss rfl rfl) rfl ?_
        refine J.nil ?_
        refine EJ.thenN (hK19 ?_)
        refine CJ.condD rfl (fun h43 => ?_) (fun h43 => ?_)
        ·
          refine CJ.skip ?_
          refine EJ.thenN (hK18 ?_)
          refine CJ.seq fun _ hK20 _ => ?_
          refine CJ.block ?_
          refine CJ.seq fun _ hK21 _ => ?_
          refine CJ.seq fun _ hK22 _ => ?_
          refine CJ.region ?_
          refine J.p (PR.move rfl) rfl ?_
          refine J.p (PR.move rfl) rfl ?_
          refine J.p (PR.geq rfl rfl) rfl ?_
          refine J.nil ?_
          refine EJ.thenN (hK22 ?_)
          refine CJ.condD rfl (fun h48 => ?_) (fun h48 => ?_)
          ·
            refine CJ.region ?_
            refine J.p (PR.move rfl) rfl ?_
            refine J.p (PR.idxA1 u86 sz5 rfl rfl rfl (by omega)) rfl ?_
            refine J.storeB rfl rfl sz5 (by simp; omega) At.z ?_
            refine J.nil ?_
            refine EJ.thenN (hK21 ?_)
            refine CJ.seq fun _ hK23 _ => ?_
            refine CJ.region ?_
            refine J.p (PR.move rfl) rfl ?_
            refine J.p (PR.move rfl) rfl ?_
            refine J.p (PR.leq rfl rfl) rfl ?_
            refine J.nil ?_
            refine EJ.thenN (hK23 ?_)
            refine CJ.condD rfl (fun h53 => ?_) (fun h53 => ?_)
            ·
              refine CJ.region ?_
              refine J.p (PR.move rfl) rfl ?_
              refine J.p (PR.idxA1 u86 sz5 rfl rfl rfl (by omega)) rfl ?_
              refine J.storeB rfl rfl sz5 (by simp; omega) (.s .z) ?_
              refine J.nil ?_
              refine EJ.inN ?_
              refine EJ.thenN (hK20 ?_)
              refine CJ.region ?_
              refine J.p (PR.move rfl) rfl ?_
              refine J.p (PR.add rfl rfl (by first | exact nw _ (by omega) | rfl)) rfl ?_
              refine J.p (PR.assign rfl) rfl ?_
              refine J.nil ?_
              refine EJ.thenN ?_
              exact hAg2 (j + 1) (by omega) (by omega) 16 rfl rfl ⟨rfl, trivial⟩ rfl (by simp only [frK_yes (p := (tm f i).mono) (show j < 8 by omega) (show k ≤ j by omega), bkK_yes (p := (tm f i).mono) (show j < 8 by omega) (show j ≤ k by omega)])
            ·
              refine CJ.skip ?_
              refine EJ.inN ?_
              refine EJ.thenN (hK20 ?_)
              refine CJ.region ?_
              refine J.p (PR.move rfl) rfl ?_
              refine J.p (PR.add rfl rfl (by first | exact nw _ (by omega) | rfl)) rfl ?_
              refine J.p (PR.assign rfl) rfl ?_
              refine J.nil ?_
              refine EJ.thenN ?_
              exact hAg2 (j + 1) (by omega) (by omega) 14 rfl rfl ⟨rfl, trivial⟩ rfl (by simp only [frK_yes (p := (tm f i).mono) (show j < 8 by omega) (show k ≤ j by omega), bkK_no (p := (tm f i).mono) (show ¬ j ≤ k by omega)])
          ·
            refine CJ.skip ?_
            refine EJ.thenN (hK21 ?_)
            refine CJ.seq fun _ hK24 _ => ?_
            refine CJ.region ?_
            refine J.p (PR.move rfl) rfl ?_
            refine J.p (PR.move rfl) rfl ?_
            refine J.p (PR.leq rfl rfl) rfl ?_
            refine J.nil ?_
            refine EJ.thenN (hK24 ?_)
            refine CJ.condD rfl (fun h53 => ?_) (fun h53 => ?_)
            ·
              refine CJ.region ?_
              refine J.p (PR.move rfl) rfl ?_
              refine J.p (PR.idxA1 u86 sz5 rfl rfl rfl (by omega)) rfl ?_
              refine J.storeB rfl rfl sz5 (by simp; omega) (.s .z) ?_
              refine J.nil ?_
              refine EJ.inN ?_
              refine EJ.thenN (hK20 ?_)
              refine CJ.region ?_
              refine J.p (PR.move rfl) rfl ?_
              refine J.p (PR.add rfl rfl (by first | exact nw _ (by omega) | rfl)) rfl ?_
              refine J.p (PR.assign rfl) rfl ?_
              refine J.nil ?_
              refine EJ.thenN ?_
              exact hAg2 (j + 1) (by omega) (by omega) 14 rfl rfl ⟨rfl, trivial⟩ rfl (by simp only [frK_no (p := (tm f i).mono) (show ¬ k ≤ j by omega), bkK_yes (p := (tm f i).mono) (show j < 8 by omega) (show j ≤ k by omega)])
            ·
              refine CJ.skip ?_
              refine EJ.inN ?_
              refine EJ.thenN (hK20 ?_)
              refine CJ.region ?_
              refine J.p (PR.move rfl) rfl ?_
              refine J.p (PR.add rfl rfl (by first | exact nw _ (by omega) | rfl)) rfl ?_
              refine J.p (PR.assign rfl) rfl ?_
              refine J.nil ?_
              refine EJ.thenN ?_
              exact hAg2 (j + 1) (by omega) (by omega) 12 rfl rfl ⟨rfl, trivial⟩ rfl (by simp only [frK_no (p := (tm f i).mono) (show ¬ k ≤ j by omega), bkK_no (p := (tm f i).mono) (show ¬ j ≤ k by omega)])
        ·
          obtain rfl : j = 8 := by omega
          rw [frK_end, bkK_end]
          refine CJ.exit ?_
          refine EJ.thenE ?_
          refine EJ.thenE ?_
          refine EJ.inE ?_
          refine EJ.thenN (hK16 ?_)
          refine CJ.seq fun _ hK25 _ => ?_
          refine CJ.region ?_
          refine J.p (PR.loadAll rfl At.z (by simpa using ag86)) rfl ?_
          refine J.alloc ze86 rfl fun g12 => ?_
          refine J.storeAll rfl rfl (by first | exact bytesC_one _ | exact intsC_one _ | exact Term.c_one _ | simp [Value.oneCell']) (by simpa [*] using sz86) (by simp [*]) At.z ?_
          refine J.nil ?_
          refine EJ.thenN (hK25 ?_)
          refine CJ.seq fun _ hK26 _ => ?_
          refine CJ.region ?_
          refine J.p (PR.move rfl) rfl ?_
          refine J.p (PR.move rfl) rfl ?_
          refine J.p (PR.idxA1 u86 sz5 rfl rfl rfl (by omega)) rfl ?_
          refine J.p (PR.load rfl (.s (.s (.s .z))) (bytesC_get (by omega)) pl5) rfl ?_
          refine J.p (PR.sub rfl rfl (u8_id (by omega))) rfl ?_
          refine J.p (PR.idxA1 u86 sz5 rfl rfl rfl (by omega)) rfl ?_
          refine J.storeB rfl rfl sz5 (by simp; omega) At.z ?_
          refine J.nil ?_
          refine EJ.thenN (hK26 ?_)
          refine CJ.seq fun _ hK27 _ => ?_
          refine CJ.regionD foll0 (by kernel_rfl) ?_
          refine JS.op (PR.fldA u29 rfl sz27 rfl) rfl ?_
          refine JS.op (PR.load rfl (.s (.s (.s (.s (.s (.s (.s .z))))))) rfl pl27) rfl ?_
          refine JS.op (PR.move rfl) rfl ?_
          refine JS.op (PR.idx u27 sz88 rfl rfl rfl (by omega) hf.sm) rfl ?_
          refine JS.op (PR.fldP u88 rfl sz2 rfl (hf.sm (i := i) (by omega))) rfl ?_
          refine JS.op (PR.loadH rfl (hf.fac (by omega)) pl2) rfl ?_
          refine JS.op (PR.move rfl) rfl ?_
          refine JS.op (PR.idxA1 u86 sz5 rfl rfl rfl (by omega)) rfl ?_
          refine JS.op (PR.load rfl (.s (.s (.s .z))) (bytesC_get (by omega)) pl5) rfl ?_
          refine JS.op (PR.conv u5 u2 rfl (by first | exact nw _ (by omega) | rfl)) rfl ?_
          refine JS.op (PR.mul rfl rfl (by first | exact nw _ (by omega) | rfl)) rfl ?_
          refine JS.op (PR.assign rfl) rfl ?_
          refine JS.nil ?_
          refine EJ.thenN (hK27 ?_)
          refine CJ.seq fun _ hK28 _ => ?_
          refine CJ.seq fun _ hK29 _ => ?_
          refine CJ.region ?_
          refine J.p (PR.fldA u41 rfl sz22 rfl) rfl ?_
          refine J.p (PR.load rfl (.s (.s (.s (.s (.s (.s (.s (.s .z)))))))) rfl pl22) rfl ?_
          refine J.p (PR.loadAll rfl (.s .z) (by simpa using ag86)) rfl ?_
          refine J.call fn72 rfl rfl fun w hH => (l01Weight_c had hfm hn hd hH).mono ?_
          rintro _ w ⟨rfl, hH⟩
          refine ⟨_, rfl, fun a hF => J.of hF hH ?_⟩
          refine J.p (PR.rem rfl rfl (by decide) rfl) rfl ?_
          refine J.p (PR.neq rfl rfl) rfl ?_
          refine J.nil ?_
          refine EJ.thenN (hK29 ?_)
          refine CJ.condD rfl (fun h79 => ?_) (fun h79 => ?_)
          ·
            refine CJ.region ?_
            refine J.p (PR.move rfl) rfl ?_
            refine J.p (PR.neg rfl (by first | exact nw _ (by omega) | rfl)) rfl ?_
            refine J.p (PR.assign rfl) rfl ?_
            refine J.nil ?_
            refine EJ.thenN (hK28 ?_)
            refine CJ.seq fun _ hK30 _ => ?_
            refine CJ.openR (Rs := [_, _, _, _, _, _, _, _, _]) 12 [[], [0], [], [2], [], [4], [], [4, 5, 6], [4, 5, 6, 7], [0, 1, 2, 3, 4, 5, 6, 7, 8], [], [0, 1, 2, 3, 4, 5, 6, 7, 8, 9, 10]] [[], [20], [12], [], [], [20], [], [], [], [3], [], []] [[], [], [], [], [], [], [], [], [], [], [], [10]] rfl rfl (by kernel_rfl) ?_
            apply GJ.st0 1 rfl
            · intro gh; conv => lhs; simp only [slotsZ, zlAt, vs0, resL, at2, eq_self, Nat.reduceEqDiff, reduceIte, Nat.reduceSub, Nat.reduceAdd, List.cons_append, List.nil_append]
              all_goals rfl
            · intro gh X; conv => lhs; simp only [slotsZ, zlAt, vs0, resL, at2, eq_self, Nat.reduceEqDiff, reduceIte, Nat.reduceSub, Nat.reduceAdd, List.cons_append, List.nil_append]
              all_goals rfl
            · intro gh X; conv => lhs; simp only [slotsZ, zlAt, vs0, resL, at2, eq_self, Nat.reduceEqDiff, reduceIte, Nat.reduceSub, Nat.reduceAdd, List.cons_append, List.nil_append]
              all_goals rfl
            ·
              intro gh X K zq zc zq2 zc2 zb zv hK
              refine J.p (PR.fldA u41 rfl sz22 rfl) rfl ?_
              refine J.nilK ?_
              exact hK zq zc zq2 zc2 zb zv
            ·
              intro gh gh' h
              rfl
            apply GJ.st0 2 rfl
            · intro gh; conv => lhs; simp only [slotsZ, zlAt, vs0, resL, at2, eq_self, Nat.reduceEqDiff, reduceIte, Nat.reduceSub, Nat.reduceAdd, List.cons_append, List.nil_append]
              all_goals rfl
            · intro gh X; conv => lhs; simp only [slotsZ, zlAt, vs0, resL, at2, eq_self, Nat.reduceEqDiff, reduceIte, Nat.reduceSub, Nat.reduceAdd, List.cons_append, List.nil_append]
              all_goals rfl
            · intro gh X; conv => lhs; simp only [slotsZ, zlAt, vs0, resL, at2, eq_self, Nat.reduceEqDiff, reduceIte, Nat.reduceSub, Nat.reduceAdd, List.cons_append, List.nil_append]
              all_goals rfl
            ·
              intro gh X K zq zc zq2 zc2 zb zv hK
              refine J.p (PR.load rfl At.z rfl pl22) rfl ?_
              refine J.nilK ?_
              exact hK zq zc zq2 zc2 zb zv
            ·
              intro gh gh' h
              rfl
            apply GJ.st0 3 rfl
            · intro gh; conv => lhs; simp only [slotsZ, zlAt, vs0, resL, at2, eq_self, Nat.reduceEqDiff, reduceIte, Nat.reduceSub, Nat.reduceAdd, List.cons_append, List.nil_append]
              all_goals rfl
            · intro gh X; conv => lhs; simp only [slotsZ, zlAt, vs0, resL, at2, eq_self, Nat.reduceEqDiff, reduceIte, Nat.reduceSub, Nat.reduceAdd, List.cons_append, List.nil_append]
              all_goals rfl
            · intro gh X; conv => lhs; simp only [slotsZ, zlAt, vs0, resL, at2, eq_self, Nat.reduceEqDiff, reduceIte, Nat.reduceSub, Nat.reduceAdd, List.cons_append, List.nil_append]
              all_goals rfl
            ·
              intro gh X K zq zc zq2 zc2 zb zv hK
              refine J.p (PR.loadAll rfl At.z (by simpa using ag86)) rfl ?_
              refine J.nilK ?_
              exact hK zq zc zq2 zc2 zb zv
            ·
              intro gh gh' h
              rfl
            apply GJ.st1 4 rfl
            · intro gh; conv => lhs; simp only [slotsZ, zlAt, vs0, resL, at2, eq_self, Nat.reduceEqDiff, reduceIte, Nat.reduceSub, Nat.reduceAdd, List.cons_append, List.nil_append]
              all_goals rfl
            · intro gh X; conv => lhs; simp only [slotsZ, zlAt, vs0, resL, at2, eq_self, Nat.reduceEqDiff, reduceIte, Nat.reduceSub, Nat.reduceAdd, List.cons_append, List.nil_append]
              all_goals rfl
            · intro gh X; conv => lhs; simp only [slotsZ, zlAt, vs0, resL, at2, eq_self, Nat.reduceEqDiff, reduceIte, Nat.reduceSub, Nat.reduceAdd, List.cons_append, List.nil_append]
              all_goals rfl
            ·
              intro gh X K zq zc zq2 zc2 zb zv hK
              refine J.call fn149 rfl rfl fun w hH => (l01Single_c hlm (by omega) hH).mono ?_
              rintro _ w ⟨qo85, co85, rfl, hH⟩
              refine ⟨_, rfl, fun a hF => J.of hF hH ?_⟩
              refine J.nilK ?_
              exact hK qo85 co85 zq2 zc2 zb zv
            ·
              intro gh gh' h
              refine ⟨?_, ?_⟩ <;> rfl
            apply GJ.st0 5 rfl
            · intro gh; conv => lhs; simp only [slotsZ, zlAt, vs0, resL, at2, eq_self, Nat.reduceEqDiff, reduceIte, Nat.reduceSub, Nat.reduceAdd, List.cons_append, List.nil_append]
              all_goals rfl
            · intro gh X; conv => lhs; simp only [slotsZ, zlAt, vs0, resL, at2, eq_self, Nat.reduceEqDiff, reduceIte, Nat.reduceSub, Nat.reduceAdd, List.cons_append, List.nil_append]
              all_goals rfl
            · intro gh X; conv => lhs; simp only [slotsZ, zlAt, vs0, resL, at2, eq_self, Nat.reduceEqDiff, reduceIte, Nat.reduceSub, Nat.reduceAdd, List.cons_append, List.nil_append]
              all_goals rfl
            ·
              intro gh X K zq zc zq2 zc2 zb zv hK
              refine J.p (PR.fldA u41 rfl sz39 rfl) rfl ?_
              refine J.nilK ?_
              exact hK zq zc zq2 zc2 zb zv
            ·
              intro gh gh' h
              rfl
            apply GJ.st0 6 rfl
            · intro gh; conv => lhs; simp only [slotsZ, zlAt, vs0, resL, at2, eq_self, Nat.reduceEqDiff, reduceIte, Nat.reduceSub, Nat.reduceAdd, List.cons_append, List.nil_append]
              all_goals rfl
            · intro gh X; conv => lhs; simp only [slotsZ, zlAt, vs0, resL, at2, eq_self, Nat.reduceEqDiff, reduceIte, Nat.reduceSub, Nat.reduceAdd, List.cons_append, List.nil_append]
              all_goals rfl
            · intro gh X; conv => lhs; simp only [slotsZ, zlAt, vs0, resL, at2, eq_self, Nat.reduceEqDiff, reduceIte, Nat.reduceSub, Nat.reduceAdd, List.cons_append, List.nil_append]
              all_goals rfl
            ·
              intro gh X K zq zc zq2 zc2 zb zv hK
              refine J.p (PR.load rfl At.z rfl pl39) rfl ?_
              refine J.nilK ?_
              exact hK zq zc zq2 zc2 zb zv
            ·
              intro gh gh' h
              rfl
            apply GJ.st0 7 rfl
            · intro gh; conv => lhs; simp only [slotsZ, zlAt, vs0, resL, at2, eq_self, Nat.reduceEqDiff, reduceIte, Nat.reduceSub, Nat.reduceAdd, List.cons_append, List.nil_append]
              all_goals rfl
            · intro gh X; conv => lhs; simp only [slotsZ, zlAt, vs0, resL, at2, eq_self, Nat.reduceEqDiff, reduceIte, Nat.reduceSub, Nat.reduceAdd, List.cons_append, List.nil_append]
              all_goals rfl
            · intro gh X; conv => lhs; simp only [slotsZ, zlAt, vs0, resL, at2, eq_self, Nat.reduceEqDiff, reduceIte, Nat.reduceSub, Nat.reduceAdd, List.cons_append, List.nil_append]
              all_goals rfl
            ·
              intro gh X K zq zc zq2 zc2 zb zv hK
              refine J.p (PR.move rfl) rfl ?_
              refine J.nilK ?_
              exact hK zq zc zq2 zc2 zb zv
            ·
              intro gh gh' h
              rfl
            apply GJ.st0 8 rfl
            · intro gh; conv => lhs; simp only [slotsZ, zlAt, vs0, resL, at2, eq_self, Nat.reduceEqDiff, reduceIte, Nat.reduceSub, Nat.reduceAdd, List.cons_append, List.nil_append]
              all_goals rfl
            · intro gh X; conv => lhs; simp only [slotsZ, zlAt, vs0, resL, at2, eq_self, Nat.reduceEqDiff, reduceIte, Nat.reduceSub, Nat.reduceAdd, List.cons_append, List.nil_append]
              all_goals rfl
            · intro gh X; conv => lhs; simp only [slotsZ, zlAt, vs0, resL, at2, eq_self, Nat.reduceEqDiff, reduceIte, Nat.reduceSub, Nat.reduceAdd, List.cons_append, List.nil_append]
              all_goals rfl
            ·
              intro gh X K zq zc zq2 zc2 zb zv hK
              refine J.p (PR.idx1 u39 sz29 rfl rfl rfl (by omega) haf.sm) rfl ?_
              refine J.nilK ?_
              exact hK zq zc zq2 zc2 zb zv
            ·
              intro gh gh' h
              rfl
            obtain ⟨qe90, ce90, he90, le90, Fe90⟩ := haf k (by omega)
            apply GJ.st0 9 rfl
            · intro gh; conv => lhs; simp only [slotsZ, zlAt, vs0, resL, at2, eq_self, Nat.reduceEqDiff, reduceIte, Nat.reduceSub, Nat.reduceAdd, List.cons_append, List.nil_append]
              all_goals rfl
            · intro gh X; conv => lhs; simp only [slotsZ, zlAt, vs0, resL, at2, eq_self, Nat.reduceEqDiff, reduceIte, Nat.reduceSub, Nat.reduceAdd, List.cons_append, List.nil_append]
              all_goals rfl
            · intro gh X; conv => lhs; simp only [slotsZ, zlAt, vs0, resL, at2, eq_self, Nat.reduceEqDiff, reduceIte, Nat.reduceSub, Nat.reduceAdd, List.cons_append, List.nil_append]
              all_goals rfl
            ·
              intro gh X K zq zc zq2 zc2 zb zv hK
              refine J.p (PR.loadHagg (cs := [_]) rfl (one_cell he90) (haf.sm (i := k) (by omega)) ag29) rfl ?_
              refine J.nilK ?_
              exact hK zq zc zq2 zc2 zb zv
            ·
              intro gh gh' h
              rfl
            apply GJ.st1 10 rfl
            · intro gh; conv => lhs; simp only [slotsZ, zlAt, vs0, resL, at2, eq_self, Nat.reduceEqDiff, reduceIte, Nat.reduceSub, Nat.reduceAdd, List.cons_append, List.nil_append]
              all_goals rfl
            · intro gh X; conv => lhs; simp only [slotsZ, zlAt, vs0, resL, at2, eq_self, Nat.reduceEqDiff, reduceIte, Nat.reduceSub, Nat.reduceAdd, List.cons_append, List.nil_append]
              all_goals rfl
            · intro gh X; conv => lhs; simp only [slotsZ, zlAt, vs0, resL, at2, eq_self, Nat.reduceEqDiff, reduceIte, Nat.reduceSub, Nat.reduceAdd, List.cons_append, List.nil_append]
              all_goals rfl
            ·
              intro gh X K zq zc zq2 zc2 zb zv hK
              refine J.call fn148 rfl rfl fun w hH => hH.lend .z fun Hl1 hle1 hA1 hB1 hH => (l01Times_c (had.le hle1) (own_terms (one_wf hlm) hA1) (Fe90.le hle1) hn hd (one_kex hle) (hk9 k hkl) (one_g hlp) (hf9 k hkl).1.g (by omega) (by rw [one_len]; omega) (by rw [one_len]; omega) hH).mono ?_
              rintro _ w ⟨qo91, co91, rfl, hH⟩
              replace hH := hB1 _ _ hH
              refine ⟨_, rfl, fun a hF => J.of hF hH ?_⟩
              refine EJ.front .z ?_
              refine EJ.front (.s .z) ?_
              refine J.nilK ?_
              exact hK qo91 co91 zq2 zc2 zb zv
            ·
              intro gh gh' h
              refine ⟨?_, ?_⟩ <;> (first | simp only [h 3 rfl] | rfl)
            apply GJ.st1 11 rfl
            · intro gh; conv => lhs; simp only [slotsZ, zlAt, vs0, resL, at2, eq_self, Nat.reduceEqDiff, reduceIte, Nat.reduceSub, Nat.reduceAdd, List.cons_append, List.nil_append]
              all_goals rfl
            · intro gh X; conv => lhs; simp only [slotsZ, zlAt, vs0, resL, at2, eq_self, Nat.reduceEqDiff, reduceIte, Nat.reduceSub, Nat.reduceAdd, List.cons_append, List.nil_append]
              all_goals rfl
            · intro gh X; conv => lhs; simp only [slotsZ, zlAt, vs0, resL, at2, eq_self, Nat.reduceEqDiff, reduceIte, Nat.reduceSub, Nat.reduceAdd, List.cons_append, List.nil_append]
              all_goals rfl
            ·
              intro gh X K zq zc zq2 zc2 zb zv hK
              refine J.alloc ze29 rfl fun g14 => ?_
              refine J.nilK ?_
              exact hK zq zc zq2 zc2 g14 zv
            ·
              intro gh gh' h
              refine ⟨?_, ?_⟩ <;> rfl
            apply GJ.sn1 12 rfl
            · intro gh; conv => lhs; simp only [slotsZ, zlAt, vs0, resL, at2, eq_self, Nat.reduceEqDiff, reduceIte, Nat.reduceSub, Nat.reduceAdd, List.cons_append, List.nil_append]
              all_goals rfl
            · intro gh X; conv => lhs; simp only [slotsZ, zlAt, vs0, resL, at2, eq_self, Nat.reduceEqDiff, reduceIte, Nat.reduceSub, Nat.reduceAdd, List.cons_append, List.nil_append]
              all_goals rfl
            · intro gh X; conv => lhs; simp only [slotsZ, zlAt, vs0, resL, at2, eq_self, Nat.reduceEqDiff, reduceIte, Nat.reduceSub, Nat.reduceAdd, List.cons_append, List.nil_append]
              all_goals rfl
            ·
              intro gh X K hK
              refine J.storeAll rfl rfl (by first | exact bytesC_one _ | exact intsC_one _ | exact Term.c_one _ | simp [Value.oneCell']) (by simpa [*] using sz29) (by simp [*]) At.z ?_
              refine J.nilK ?_
              exact hK
            ·
              intro gh gh' h
              first | simp only [h 3 rfl, h 9 rfl, h 10 rfl] | rfl
            apply GJ.close [0, 1, 2, 3, 4, 5, 6, 7, 8, 9, 10, 11] [0, 1, 2, 3, 4, 5, 6, 7, 8, 9, 11, 12, 13, 14, 15, 16, 17, 18, 19, 20] foll0 rfl rfl rfl (by rfl)
            · intro gh; conv => lhs; simp only [slotsZ, zlAt, vs0, resL, at2, eq_self, Nat.reduceEqDiff, reduceIte, Nat.reduceSub, Nat.reduceAdd, List.cons_append, List.nil_append]
              all_goals rfl
            · intro gh; conv => lhs; simp only [slotsZ, zlAt, vs0, resL, at2, eq_self, Nat.reduceEqDiff, reduceIte, Nat.reduceSub, Nat.reduceAdd, List.cons_append, List.nil_append]
              all_goals rfl
            intro gh
            generalize (gh 3).c = co85
            generalize (gh 3).q = qo85
            generalize (gh 9).c = co91
            generalize (gh 9).q = qo91
            generalize (gh 10).b = g14
            clear gh
            refine EJ.thenN (hK30 ?_)
            refine CJ.openR (Rs := [_, _, _, _, _, _, _, _, _, _, _, _]) 11 [[], [], [1], [], [], [4], [1, 2, 3, 4, 5], [], [1, 2, 3, 4, 5, 6, 7], [0, 1, 2, 3, 4, 5, 6, 7, 8], [0, 1, 2, 3, 4, 5, 6, 7, 8, 9]] [[18], [], [22], [13], [16], [], [5, 12], [], [], [6, 19], []] [[], [], [], [], [], [], [], [], [], [], [18]] rfl rfl (by kernel_rfl) ?_
            apply GJ.st0 1 rfl
            · intro gh; conv => lhs; simp only [slotsZ, zlAt, vs0, resL, at2, eq_self, Nat.reduceEqDiff, reduceIte, Nat.reduceSub, Nat.reduceAdd, List.cons_append, List.nil_append]
              all_goals rfl
            · intro gh X; conv => lhs; simp only [slotsZ, zlAt, vs0, resL, at2, eq_self, Nat.reduceEqDiff, reduceIte, Nat.reduceSub, Nat.reduceAdd, List.cons_append, List.nil_append]
              all_goals rfl
            · intro gh X; conv => lhs; simp only [slotsZ, zlAt, vs0, resL, at2, eq_self, Nat.reduceEqDiff, reduceIte, Nat.reduceSub, Nat.reduceAdd, List.cons_append, List.nil_append]
              all_goals rfl
            ·
              intro gh X K zq zc zq2 zc2 zb zv hK
              refine J.p (PR.loadAll rfl At.z (by simpa [*] using ag29)) rfl ?_
              refine J.nilK ?_
              exact hK zq zc zq2 zc2 zb zv
            ·
              intro gh gh' h
              rfl
            apply GJ.st0 2 rfl
            · intro gh; conv => lhs; simp only [slotsZ, zlAt, vs0, resL, at2, eq_self, Nat.reduceEqDiff, reduceIte, Nat.reduceSub, Nat.reduceAdd, List.cons_append, List.nil_append]
              all_goals rfl
            · intro gh X; conv => lhs; simp only [slotsZ, zlAt, vs0, resL, at2, eq_self, Nat.reduceEqDiff, reduceIte, Nat.reduceSub, Nat.reduceAdd, List.cons_append, List.nil_append]
              all_goals rfl
            · intro gh X; conv => lhs; simp only [slotsZ, zlAt, vs0, resL, at2, eq_self, Nat.reduceEqDiff, reduceIte, Nat.reduceSub, Nat.reduceAdd, List.cons_append, List.nil_append]
              all_goals rfl
            ·
              intro gh X K zq zc zq2 zc2 zb zv hK
              refine J.p (PR.fldA u41 rfl sz22 rfl) rfl ?_
              refine J.nilK ?_
              exact hK zq zc zq2 zc2 zb zv
            ·
              intro gh gh' h
              rfl
            apply GJ.st0 3 rfl
            · intro gh; conv => lhs; simp only [slotsZ, zlAt, vs0, resL, at2, eq_self, Nat.reduceEqDiff, reduceIte, Nat.reduceSub, Nat.reduceAdd, List.cons_append, List.nil_append]
              all_goals rfl
            · intro gh X; conv => lhs; simp only [slotsZ, zlAt, vs0, resL, at2, eq_self, Nat.reduceEqDiff, reduceIte, Nat.reduceSub, Nat.reduceAdd, List.cons_append, List.nil_append]
              all_goals rfl
            · intro gh X; conv => lhs; simp only [slotsZ, zlAt, vs0, resL, at2, eq_self, Nat.reduceEqDiff, reduceIte, Nat.reduceSub, Nat.reduceAdd, List.cons_append, List.nil_append]
              all_goals rfl
            ·
              intro gh X K zq zc zq2 zc2 zb zv hK
              refine J.p (PR.load rfl At.z rfl pl22) rfl ?_
              refine J.nilK ?_
              exact hK zq zc zq2 zc2 zb zv
            ·
              intro gh gh' h
              rfl
            apply GJ.st0 4 rfl
            · intro gh; conv => lhs; simp only [slotsZ, zlAt, vs0, resL, at2, eq_self, Nat.reduceEqDiff, reduceIte, Nat.reduceSub, Nat.reduceAdd, List.cons_append, List.nil_append]
              all_goals rfl
            · intro gh X; conv => lhs; simp only [slotsZ, zlAt, vs0, resL, at2, eq_self, Nat.reduceEqDiff, reduceIte, Nat.reduceSub, Nat.reduceAdd, List.cons_append, List.nil_append]
              all_goals rfl
            · intro gh X; conv => lhs; simp only [slotsZ, zlAt, vs0, resL, at2, eq_self, Nat.reduceEqDiff, reduceIte, Nat.reduceSub, Nat.reduceAdd, List.cons_append, List.nil_append]
              all_goals rfl
            ·
              intro gh X K zq zc zq2 zc2 zb zv hK
              refine J.p (PR.loadAll rfl At.z (by simpa [*] using ag29)) rfl ?_
              refine J.nilK ?_
              exact hK zq zc zq2 zc2 zb zv
            ·
              intro gh gh' h
              rfl
            apply GJ.st0 5 rfl
            · intro gh; conv => lhs; simp only [slotsZ, zlAt, vs0, resL, at2, eq_self, Nat.reduceEqDiff, reduceIte, Nat.reduceSub, Nat.reduceAdd, List.cons_append, List.nil_append]
              all_goals rfl
            · intro gh X; conv => lhs; simp only [slotsZ, zlAt, vs0, resL, at2, eq_self, Nat.reduceEqDiff, reduceIte, Nat.reduceSub, Nat.reduceAdd, List.cons_append, List.nil_append]
              all_goals rfl
            · intro gh X; conv => lhs; simp only [slotsZ, zlAt, vs0, resL, at2, eq_self, Nat.reduceEqDiff, reduceIte, Nat.reduceSub, Nat.reduceAdd, List.cons_append, List.nil_append]
              all_goals rfl
            ·
              intro gh X K zq zc zq2 zc2 zb zv hK
              refine J.p (PR.loadAll rfl At.z (by simpa using ag86)) rfl ?_
              refine J.nilK ?_
              exact hK zq zc zq2 zc2 zb zv
            ·
              intro gh gh' h
              rfl
            apply GJ.st1 6 rfl
            · intro gh; conv => lhs; simp only [slotsZ, zlAt, vs0, resL, at2, eq_self, Nat.reduceEqDiff, reduceIte, Nat.reduceSub, Nat.reduceAdd, List.cons_append, List.nil_append]
              all_goals rfl
            · intro gh X; conv => lhs; simp only [slotsZ, zlAt, vs0, resL, at2, eq_self, Nat.reduceEqDiff, reduceIte, Nat.reduceSub, Nat.reduceAdd, List.cons_append, List.nil_append]
              all_goals rfl
            · intro gh X; conv => lhs; simp only [slotsZ, zlAt, vs0, resL, at2, eq_self, Nat.reduceEqDiff, reduceIte, Nat.reduceSub, Nat.reduceAdd, List.cons_append, List.nil_append]
              all_goals rfl
            ·
              intro gh X K zq zc zq2 zc2 zb zv hK
              refine J.call fn149 rfl rfl fun w hH => (l01Single_c hbm (by omega) hH).mono ?_
              rintro _ w ⟨qo97, co97, rfl, hH⟩
              refine ⟨_, rfl, fun a hF => J.of hF hH ?_⟩
              refine J.nilK ?_
              exact hK qo97 co97 zq2 zc2 zb zv
            ·
              intro gh gh' h
              refine ⟨?_, ?_⟩ <;> rfl
            apply GJ.st1 7 rfl
            · intro gh; conv => lhs; simp only [slotsZ, zlAt, vs0, resL, at2, eq_self, Nat.reduceEqDiff, reduceIte, Nat.reduceSub, Nat.reduceAdd, List.cons_append, List.nil_append]
              all_goals rfl
            · intro gh X; conv => lhs; simp only [slotsZ, zlAt, vs0, resL, at2, eq_self, Nat.reduceEqDiff, reduceIte, Nat.reduceSub, Nat.reduceAdd, List.cons_append, List.nil_append]
              all_goals rfl
            · intro gh X; conv => lhs; simp only [slotsZ, zlAt, vs0, resL, at2, eq_self, Nat.reduceEqDiff, reduceIte, Nat.reduceSub, Nat.reduceAdd, List.cons_append, List.nil_append]
              all_goals rfl
            ·
              intro gh X K zq zc zq2 zc2 zb zv hK
              refine J.call fn148 rfl rfl fun w hH => hH.lend (.s .z) fun Hl1 hle1 hA1 hB1 hH => hH.lend .z fun Hl2 hle2 hA2 hB2 hH => (l01Times_c ((had.le hle1).le hle2) ((own_terms (by simp only [toS_ofS, addS_one]; exact gt1.wf (by omega)) hA1).le hle2) (own_terms (one_wf hbm) hA2) hn hd (by rw [toS_ofS]; exact times_kex (one_g hlp) (hf9 k hkl).1.g (one_kex hle) (hk9 k hkl)) (one_kex hbe) (by simp only [toS_ofS, addS_one]; exact gt1.g) (one_g hbp) (by omega) (by have h := times_len ad (toS (ofS (addS [] (leftP (tm f i).mono k) 1))) (toS (fm af k)); rw [toS_len, toS_len, one_len] at h; rw [one_len, ofS_len]; omega) (by have h := times_len ad (toS (ofS (addS [] (leftP (tm f i).mono k) 1))) (toS (fm af k)); rw [toS_len, toS_len, one_len] at h; rw [ofS_len]; omega) hH).mono ?_
              rintro _ w ⟨qo98, co98, rfl, hH⟩
              replace hH := hB2 _ _ hH
              replace hH := hB1 _ _ hH
              refine ⟨_, rfl, fun a hF => J.of hF hH ?_⟩
              refine EJ.front .z ?_
              refine EJ.front (.s .z) ?_
              refine EJ.front (.s (.s .z)) ?_
              refine J.nilK ?_
              exact hK qo98 co98 zq2 zc2 zb zv
            ·
              intro gh gh' h
              refine ⟨?_, ?_⟩ <;> (first | simp only [h 5 rfl] | rfl)
            apply GJ.st0 8 rfl
            · intro gh; conv => lhs; simp only [slotsZ, zlAt, vs0, resL, at2, eq_self, Nat.reduceEqDiff, reduceIte, Nat.reduceSub, Nat.reduceAdd, List.cons_append, List.nil_append]
              all_goals rfl
            · intro gh X; conv => lhs; simp only [slotsZ, zlAt, vs0, resL, at2, eq_self, Nat.reduceEqDiff, reduceIte, Nat.reduceSub, Nat.reduceAdd, List.cons_append, List.nil_append]
              all_goals rfl
            · intro gh X; conv => lhs; simp only [slotsZ, zlAt, vs0, resL, at2, eq_self, Nat.reduceEqDiff, reduceIte, Nat.reduceSub, Nat.reduceAdd, List.cons_append, List.nil_append]
              all_goals rfl
            ·
              intro gh X K zq zc zq2 zc2 zb zv hK
              refine J.p (PR.move rfl) rfl ?_
              refine J.nilK ?_
              exact hK zq zc zq2 zc2 zb zv
            ·
              intro gh gh' h
              rfl
            apply GJ.st0 9 rfl
            · intro gh; conv => lhs; simp only [slotsZ, zlAt, vs0, resL, at2, eq_self, Nat.reduceEqDiff, reduceIte, Nat.reduceSub, Nat.reduceAdd, List.cons_append, List.nil_append]
              all_goals rfl
            · intro gh X; conv => lhs; simp only [slotsZ, zlAt, vs0, resL, at2, eq_self, Nat.reduceEqDiff, reduceIte, Nat.reduceSub, Nat.reduceAdd, List.cons_append, List.nil_append]
              all_goals rfl
            · intro gh X; conv => lhs; simp only [slotsZ, zlAt, vs0, resL, at2, eq_self, Nat.reduceEqDiff, reduceIte, Nat.reduceSub, Nat.reduceAdd, List.cons_append, List.nil_append]
              all_goals rfl
            ·
              intro gh X K zq zc zq2 zc2 zb zv hK
              refine J.call fn151 rfl rfl fun w hH => (l01Mod_c (by omega) hH).mono ?_
              rintro _ w ⟨rfl, hH⟩
              refine ⟨_, rfl, fun a hF => J.of hF hH ?_⟩
              refine J.nilK ?_
              exact hK zq zc zq2 zc2 zb zv
            ·
              intro gh gh' h
              first | simp only [h 5 rfl, h 6 rfl] | rfl
            apply GJ.st1 10 rfl
            · intro gh; conv => lhs; simp only [slotsZ, zlAt, vs0, resL, at2, eq_self, Nat.reduceEqDiff, reduceIte, Nat.reduceSub, Nat.reduceAdd, List.cons_append, List.nil_append]
              all_goals rfl
            · intro gh X; conv => lhs; simp only [slotsZ, zlAt, vs0, resL, at2, eq_self, Nat.reduceEqDiff, reduceIte, Nat.reduceSub, Nat.reduceAdd, List.cons_append, List.nil_append]
              all_goals rfl
            · intro gh X; conv => lhs; simp only [slotsZ, zlAt, vs0, resL, at2, eq_self, Nat.reduceEqDiff, reduceIte, Nat.reduceSub, Nat.reduceAdd, List.cons_append, List.nil_append]
              all_goals rfl
            ·
              intro gh X K zq zc zq2 zc2 zb zv hK
              refine J.call fn150 rfl rfl fun w hH => hH.lend (.s .z) fun Hl1 hle1 hA1 hB1 hH => hH.lend .z fun Hl2 hle2 hA2 hB2 hH => (l01Add_c ((own_terms wfO hA1).le hle2) (own_terms (by simp only [toS_ofS, addS_one]; exact gt2.wf (by omega)) hA2) (by rw [toS_ofS]; exact d2_sok hf9 hs hoc (by omega) k) (by simp only [toS_ofS, addS_one]; exact gt2.g) (by omega) (fld_bd _) (by have h1 := dT_len ad (toS (fm af k)) (tm f i).mono k; unfold dT at h1; rw [toS_len] at h1; simp only [toS_ofS, addS_one, ofS_len]; omega) hH).mono ?_
              rintro _ w ⟨qo101, co101, rfl, hH⟩
              replace hH := hB2 _ _ hH
              replace hH := hB1 _ _ hH
              refine ⟨_, rfl, fun a hF => J.of hF hH ?_⟩
              refine EJ.front .z ?_
              refine EJ.front (.s .z) ?_
              refine EJ.front (.s (.s .z)) ?_
              refine J.nilK ?_
              exact hK qo101 co101 zq2 zc2 zb zv
            ·
              intro gh gh' h
              refine ⟨?_, ?_⟩ <;> (first | simp only [h 5 rfl, h 6 rfl] | rfl)
            apply GJ.sn1 11 rfl
            · intro gh; conv => lhs; simp only [slotsZ, zlAt, vs0, resL, at2, eq_self, Nat.reduceEqDiff, reduceIte, Nat.reduceSub, Nat.reduceAdd, List.cons_append, List.nil_append]
              all_goals rfl
            · intro gh X; conv => lhs; simp only [slotsZ, zlAt, vs0, resL, at2, eq_self, Nat.reduceEqDiff, reduceIte, Nat.reduceSub, Nat.reduceAdd, List.cons_append, List.nil_append]
              all_goals rfl
            · intro gh X; conv => lhs; simp only [slotsZ, zlAt, vs0, resL, at2, eq_self, Nat.reduceEqDiff, reduceIte, Nat.reduceSub, Nat.reduceAdd, List.cons_append, List.nil_append]
              all_goals rfl
            ·
              intro gh X K hK
              refine J.storeAll rfl rfl (by first | exact bytesC_one _ | exact intsC_one _ | exact Term.c_one _ | simp [Value.oneCell']) (by simpa [*] using sz29) (by simp [*]) At.z ?_
              refine J.nilK ?_
              exact hK
            ·
              intro gh gh' h
              first | simp only [h 5 rfl, h 6 rfl, h 9 rfl] | rfl
            apply GJ.close [0, 1, 2, 3, 4, 5, 6, 7, 8, 9, 10] [0, 1, 2, 3, 4, 5, 6, 7, 8, 9, 10, 11, 12, 13, 14, 15, 16, 17, 19, 20, 21, 22] foll0 rfl rfl rfl (by rfl)
            · intro gh; conv => lhs; simp only [slotsZ, zlAt, vs0, resL, at2, eq_self, Nat.reduceEqDiff, reduceIte, Nat.reduceSub, Nat.reduceAdd, List.cons_append, List.nil_append]
              all_goals rfl
            · intro gh; conv => lhs; simp only [slotsZ, zlAt, vs0, resL, at2, eq_self, Nat.reduceEqDiff, reduceIte, Nat.reduceSub, Nat.reduceAdd, List.cons_append, List.nil_append]
              all_goals rfl
            intro gh
            generalize (gh 5).c = co97
            generalize (gh 5).q = qo97
            generalize (gh 6).c = co98
            generalize (gh 6).q = qo98
            generalize (gh 9).c = co101
            generalize (gh 9).q = qo101
            clear gh
            refine EJ.inN ?_
            refine EJ.thenN (hK12 ?_)
            refine CJ.region ?_
            refine J.p (PR.move rfl) rfl ?_
            refine J.p (PR.add rfl rfl (by first | exact nw _ (by omega) | rfl)) rfl ?_
            refine J.p (PR.assign rfl) rfl ?_
            refine J.nil ?_
            refine EJ.thenN ?_
            refine EJ.drop (.s (.s (.s (.s (.s (.s (.s (.s (.s (.s (.s .z))))))))))) ?_
            refine EJ.drop .z ?_
            refine EJ.drop .z ?_
            refine EJ.drop (.s (.s .z)) ?_
            refine EJ.drop (.s (.s .z)) ?_
            refine EJ.drop (.s (.s .z)) ?_
            refine EJ.drop (.s (.s .z)) ?_
            refine EJ.drop (.s (.s .z)) ?_
            refine EJ.drop (.s (.s .z)) ?_
            refine EJ.front (.s (.s (.s (.s (.s .z))))) ?_
            refine EJ.front (.s (.s (.s (.s (.s .z))))) ?_
            refine EJ.front (.s (.s (.s (.s (.s .z))))) ?_
            refine EJ.front (.s (.s (.s .z))) ?_
            refine EJ.front (.s (.s (.s (.s .z)))) ?_
            refine EJ.front (.s (.s (.s (.s (.s .z))))) ?_
            exact hAg1 (qo101, co101, k + 1) (by show k + 1 ≤ ad.length; omega) (by show ad.length - (k + 1) < ad.length - k; omega) 71 rfl rfl ⟨rfl, trivial⟩ rfl (by simp only [toS_ofS, addS_one]; rw [← acc_dP (ds := ad) (fs := af) (x := ((tm f i).mono, (tm f i).fac)) (k := k) hpos, fac_neg (sg_neg hn hd hxn (by omega) h79)]; rfl)
          ·
            refine CJ.skip ?_
            refine EJ.thenN (hK28 ?_)
            refine CJ.seq fun _ hK31 _ => ?_
            refine CJ.openR (Rs := [_, _, _, _, _, _, _, _, _]) 12 [[], [0], [], [2], [], [4], [], [4, 5, 6], [4, 5, 6, 7], [0, 1, 2, 3, 4, 5, 6, 7, 8], [], [0, 1, 2, 3, 4, 5, 6, 7, 8, 9, 10]] [[], [20], [12], [], [], [20], [], [], [], [3], [], []] [[], [], [], [], [], [], [], [], [], [], [], [10]] rfl rfl (by kernel_rfl) ?_
            apply GJ.st0 1 rfl
            · intro gh; conv => lhs; simp only [slotsZ, zlAt, vs0, resL, at2, eq_self, Nat.reduceEqDiff, reduceIte, Nat.reduceSub, Nat.reduceAdd, List.cons_append, List.nil_append]
              all_goals rfl
            · intro gh X; conv => lhs; simp only [slotsZ, zlAt, vs0, resL, at2, eq_self, Nat.reduceEqDiff, reduceIte, Nat.reduceSub, Nat.reduceAdd, List.cons_append, List.nil_append]
              all_goals rfl
            · intro gh X; conv => lhs; simp only [slotsZ, zlAt, vs0, resL, at2, eq_self, Nat.reduceEqDiff, reduceIte, Nat.reduceSub, Nat.reduceAdd, List.cons_append, List.nil_append]
              all_goals rfl
            ·
              intro gh X K zq zc zq2 zc2 zb zv hK
              refine J.p (PR.fldA u41 rfl sz22 rfl) rfl ?_
              refine J.nilK ?_
              exact hK zq zc zq2 zc2 zb zv
            ·
              intro gh gh' h
              rfl
            apply GJ.st0 2 rfl
            · intro gh; conv => lhs; simp only [slotsZ, zlAt, vs0, resL, at2, eq_self, Nat.reduceEqDiff, reduceIte, Nat.reduceSub, Nat.reduceAdd, List.cons_append, List.nil_append]
              all_goals rfl
            · intro gh X; conv => lhs; simp only [slotsZ, zlAt, vs0, resL, at2, eq_self, Nat.reduceEqDiff, reduceIte, Nat.reduceSub, Nat.reduceAdd, List.cons_append, List.nil_append]
              all_goals rfl
            · intro gh X; conv => lhs; simp only [slotsZ, zlAt, vs0, resL, at2, eq_self, Nat.reduceEqDiff, reduceIte, Nat.reduceSub, Nat.reduceAdd, List.cons_append, List.nil_append]
              all_goals rfl
            ·
              intro gh X K zq zc zq2 zc2 zb zv hK
              refine J.p (PR.load rfl At.z rfl pl22) rfl ?_
              refine J.nilK ?_
              exact hK zq zc zq2 zc2 zb zv
            ·
              intro gh gh' h
              rfl
            apply GJ.st0 3 rfl
            · intro gh; conv => lhs; simp only [slotsZ, zlAt, vs0, resL, at2, eq_self, Nat.reduceEqDiff, reduceIte, Nat.reduceSub, Nat.reduceAdd, List.cons_append, List.nil_append]
              all_goals rfl
            · intro gh X; conv => lhs; simp only [slotsZ, zlAt, vs0, resL, at2, eq_self, Nat.reduceEqDiff, reduceIte, Nat.reduceSub, Nat.reduceAdd, List.cons_append, List.nil_append]
              all_goals rfl
            · intro gh X; conv => lhs; simp only [slotsZ, zlAt, vs0, resL, at2, eq_self, Nat.reduceEqDiff, reduceIte, Nat.reduceSub, Nat.reduceAdd, List.cons_append, List.nil_append]
              all_goals rfl
            ·
              intro gh X K zq zc zq2 zc2 zb zv hK
              refine J.p (PR.loadAll rfl At.z (by simpa using ag86)) rfl ?_
              refine J.nilK ?_
              exact hK zq zc zq2 zc2 zb zv
            ·
              intro gh gh' h
              rfl
            apply GJ.st1 4 rfl
            · intro gh; conv => lhs; simp only [slotsZ, zlAt, vs0, resL, at2, eq_self, Nat.reduceEqDiff, reduceIte, Nat.reduceSub, Nat.reduceAdd, List.cons_append, List.nil_append]
              all_goals rfl
            · intro gh X; conv => lhs; simp only [slotsZ, zlAt, vs0, resL, at2, eq_self, Nat.reduceEqDiff, reduceIte, Nat.reduceSub, Nat.reduceAdd, List.cons_append, List.nil_append]
              all_goals rfl
            · intro gh X; conv => lhs; simp only [slotsZ, zlAt, vs0, resL, at2, eq_self, Nat.reduceEqDiff, reduceIte, Nat.reduceSub, Nat.reduceAdd, List.cons_append, List.nil_append]
              all_goals rfl
            ·
              intro gh X K zq zc zq2 zc2 zb zv hK
              refine J.call fn149 rfl rfl fun w hH => (l01Single_c hlm (by omega) hH).mono ?_
              rintro _ w ⟨qo85, co85, rfl, hH⟩
              refine ⟨_, rfl, fun a hF => J.of hF hH ?_⟩
              refine J.nilK ?_
              exact hK qo85 co85 zq2 zc2 zb zv
            ·
              intro gh gh' h
              refine ⟨?_, ?_⟩ <;> rfl
            apply GJ.st0 5 rfl
            · intro gh; conv => lhs; simp only [slotsZ, zlAt, vs0, resL, at2, eq_self, Nat.reduceEqDiff, reduceIte, Nat.reduceSub, Nat.reduceAdd, List.cons_append, List.nil_append]
              all_goals rfl
            · intro gh X; conv => lhs; simp only [slotsZ, zlAt, vs0, resL, at2, eq_self, Nat.reduceEqDiff, reduceIte, Nat.reduceSub, Nat.reduceAdd, List.cons_append, List.nil_append]
              all_goals rfl
            · intro gh X; conv => lhs; simp only [slotsZ, zlAt, vs0, resL, at2, eq_self, Nat.reduceEqDiff, reduceIte, Nat.reduceSub, Nat.reduceAdd, List.cons_append, List.nil_append]
              all_goals rfl
            ·
              intro gh X K zq zc zq2 zc2 zb zv hK
              refine J.p (PR.fldA u41 rfl sz39 rfl) rfl ?_
              refine J.nilK ?_
              exact hK zq zc zq2 zc2 zb zv
            ·
              intro gh gh' h
              rfl
            apply GJ.st0 6 rfl
            · intro gh; conv => lhs; simp only [slotsZ, zlAt, vs0, resL, at2, eq_self, Nat.reduceEqDiff, reduceIte, Nat.reduceSub, Nat.reduceAdd, List.cons_append, List.nil_append]
              all_goals rfl
            · intro gh X; conv => lhs; simp only [slotsZ, zlAt, vs0, resL, at2, eq_self, Nat.reduceEqDiff, reduceIte, Nat.reduceSub, Nat.reduceAdd, List.cons_append, List.nil_append]
              all_goals rfl
            · intro gh X; conv => lhs; simp only [slotsZ, zlAt, vs0, resL, at2, eq_self, Nat.reduceEqDiff, reduceIte, Nat.reduceSub, Nat.reduceAdd, List.cons_append, List.nil_append]
              all_goals rfl
            ·
              intro gh X K zq zc zq2 zc2 zb zv hK
              refine J.p (PR.load rfl At.z rfl pl39) rfl ?_
              refine J.nilK ?_
              exact hK zq zc zq2 zc2 zb zv
            ·
              intro gh gh' h
              rfl
            apply GJ.st0 7 rfl
            · intro gh; conv => lhs; simp only [slotsZ, zlAt, vs0, resL, at2, eq_self, Nat.reduceEqDiff, reduceIte, Nat.reduceSub, Nat.reduceAdd, List.cons_append, List.nil_append]
              all_goals rfl
            · intro gh X; conv => lhs; simp only [slotsZ, zlAt, vs0, resL, at2, eq_self, Nat.reduceEqDiff, reduceIte, Nat.reduceSub, Nat.reduceAdd, List.cons_append, List.nil_append]
              all_goals rfl
            · intro gh X; conv => lhs; simp only [slotsZ, zlAt, vs0, resL, at2, eq_self, Nat.reduceEqDiff, reduceIte, Nat.reduceSub, Nat.reduceAdd, List.cons_append, List.nil_append]
              all_goals rfl
            ·
              intro gh X K zq zc zq2 zc2 zb zv hK
              refine J.p (PR.move rfl) rfl ?_
              refine J.nilK ?_
              exact hK zq zc zq2 zc2 zb zv
            ·
              intro gh gh' h
              rfl
            apply GJ.st0 8 rfl
            · intro gh; conv => lhs; simp only [slotsZ, zlAt, vs0, resL, at2, eq_self, Nat.reduceEqDiff, reduceIte, Nat.reduceSub, Nat.reduceAdd, List.cons_append, List.nil_append]
              all_goals rfl
            · intro gh X; conv => lhs; simp only [slotsZ, zlAt, vs0, resL, at2, eq_self, Nat.reduceEqDiff, reduceIte, Nat.reduceSub, Nat.reduceAdd, List.cons_append, List.nil_append]
              all_goals rfl
            · intro gh X; conv => lhs; simp only [slotsZ, zlAt, vs0, resL, at2, eq_self, Nat.reduceEqDiff, reduceIte, Nat.reduceSub, Nat.reduceAdd, List.cons_append, List.nil_append]
              all_goals rfl
            ·
              intro gh X K zq zc zq2 zc2 zb zv hK
              refine J.p (PR.idx1 u39 sz29 rfl rfl rfl (by omega) haf.sm) rfl ?_
              refine J.nilK ?_
              exact hK zq zc zq2 zc2 zb zv
            ·
              intro gh gh' h
              rfl
            obtain ⟨qe90, ce90, he90, le90, Fe90⟩ := haf k (by omega)
            apply GJ.st0 9 rfl
            · intro gh; conv => lhs; simp only [slotsZ, zlAt, vs0, resL, at2, eq_self, Nat.reduceEqDiff, reduceIte, Nat.reduceSub, Nat.reduceAdd, List.cons_append, List.nil_append]
              all_goals rfl
            · intro gh X; conv => lhs; simp only [slotsZ, zlAt, vs0, resL, at2, eq_self, Nat.reduceEqDiff, reduceIte, Nat.reduceSub, Nat.reduceAdd, List.cons_append, List.nil_append]
              all_goals rfl
            · intro gh X; conv => lhs; simp only [slotsZ, zlAt, vs0, resL, at2, eq_self, Nat.reduceEqDiff, reduceIte, Nat.reduceSub, Nat.reduceAdd, List.cons_append, List.nil_append]
              all_goals rfl
            ·
              intro gh X K zq zc zq2 zc2 zb zv hK
              refine J.p (PR.loadHagg (cs := [_]) rfl (one_cell he90) (haf.sm (i := k) (by omega)) ag29) rfl ?_
              refine J.nilK ?_
              exact hK zq zc zq2 zc2 zb zv
            ·
              intro gh gh' h
              rfl
            apply GJ.st1 10 rfl
            · intro gh; conv => lhs; simp only [slotsZ, zlAt, vs0, resL, at2, eq_self, Nat.reduceEqDiff, reduceIte, Nat.reduceSub, Nat.reduceAdd, List.cons_append, List.nil_append]
              all_goals rfl
            · intro gh X; conv => lhs; simp only [slotsZ, zlAt, vs0, resL, at2, eq_self, Nat.reduceEqDiff, reduceIte, Nat.reduceSub, Nat.reduceAdd, List.cons_append, List.nil_append]
              all_goals rfl
            · intro gh X; conv => lhs; simp only [slotsZ, zlAt, vs0, resL, at2, eq_self, Nat.reduceEqDiff, reduceIte, Nat.reduceSub, Nat.reduceAdd, List.cons_append, List.nil_append]
              all_goals rfl
            ·
              intro gh X K zq zc zq2 zc2 zb zv hK
              refine J.call fn148 rfl rfl fun w hH => hH.lend .z fun Hl1 hle1 hA1 hB1 hH => (l01Times_c (had.le hle1) (own_terms (one_wf hlm) hA1) (Fe90.le hle1) hn hd (one_kex hle) (hk9 k hkl) (one_g hlp) (hf9 k hkl).1.g (by omega) (by rw [one_len]; omega) (by rw [one_len]; omega) hH).mono ?_
              rintro _ w ⟨qo91, co91, rfl, hH⟩
              replace hH := hB1 _ _ hH
              refine ⟨_, rfl, fun a hF => J.of hF hH ?_⟩
              refine EJ.front .z ?_
              refine EJ.front (.s .z) ?_
              refine J.nilK ?_
              exact hK qo91 co91 zq2 zc2 zb zv
            ·
              intro gh gh' h
              refine ⟨?_, ?_⟩ <;> (first | simp only [h 3 rfl] | rfl)
            apply GJ.st1 11 rfl
            · intro gh; conv => lhs; simp only [slotsZ, zlAt, vs0, resL, at2, eq_self, Nat.reduceEqDiff, reduceIte, Nat.reduceSub, Nat.reduceAdd, List.cons_append, List.nil_append]
              all_goals rfl
            · intro gh X; conv => lhs; simp only [slotsZ, zlAt, vs0, resL, at2, eq_self, Nat.reduceEqDiff, reduceIte, Nat.reduceSub, Nat.reduceAdd, List.cons_append, List.nil_append]
              all_goals rfl
            · intro gh X; conv => lhs; simp only [slotsZ, zlAt, vs0, resL, at2, eq_self, Nat.reduceEqDiff, reduceIte, Nat.reduceSub, Nat.reduceAdd, List.cons_append, List.nil_append]
              all_goals rfl
            ·
              intro gh X K zq zc zq2 zc2 zb zv hK
              refine J.alloc ze29 rfl fun g14 => ?_
              refine J.nilK ?_
              exact hK zq zc zq2 zc2 g14 zv
            ·
              intro gh gh' h
              refine ⟨?_, ?_⟩ <;> rfl
            apply GJ.sn1 12 rfl
            · intro gh; conv => lhs; simp only [slotsZ, zlAt, vs0, resL, at2, eq_self, Nat.reduceEqDiff, reduceIte, Nat.reduceSub, Nat.reduceAdd, List.cons_append, List.nil_append]
              all_goals rfl
            · intro gh X; conv => lhs; simp only [slotsZ, zlAt, vs0, resL, at2, eq_self, Nat.reduceEqDiff, reduceIte, Nat.reduceSub, Nat.reduceAdd, List.cons_append, List.nil_append]
              all_goals rfl
            · intro gh X; conv => lhs; simp only [slotsZ, zlAt, vs0, resL, at2, eq_self, Nat.reduceEqDiff, reduceIte, Nat.reduceSub, Nat.reduceAdd, List.cons_append, List.nil_append]
              all_goals rfl
            ·
              intro gh X K hK
              refine J.storeAll rfl rfl (by first | exact bytesC_one _ | exact intsC_one _ | exact Term.c_one _ | simp [Value.oneCell']) (by simpa [*] using sz29) (by simp [*]) At.z ?_
              refine J.nilK ?_
              exact hK
            ·
              intro gh gh' h
              first | simp only [h 3 rfl, h 9 rfl, h 10 rfl] | rfl
            apply GJ.close [0, 1, 2, 3, 4, 5, 6, 7, 8, 9, 10, 11] [0, 1, 2, 3, 4, 5, 6, 7, 8, 9, 11, 12, 13, 14, 15, 16, 17, 18, 19, 20] foll0 rfl rfl rfl (by rfl)
            · intro gh; conv => lhs; simp only [slotsZ, zlAt, vs0, resL, at2, eq_self, Nat.reduceEqDiff, reduceIte, Nat.reduceSub, Nat.reduceAdd, List.cons_append, List.nil_append]
              all_goals rfl
            · intro gh; conv => lhs; simp only [slotsZ, zlAt, vs0, resL, at2, eq_self, Nat.reduceEqDiff, reduceIte, Nat.reduceSub, Nat.reduceAdd, List.cons_append, List.nil_append]
              all_goals rfl
            intro gh
            generalize (gh 3).c = co85
            generalize (gh 3).q = qo85
            generalize (gh 9).c = co91
            generalize (gh 9).q = qo91
            generalize (gh 10).b = g14
            clear gh
            refine EJ.thenN (hK31 ?_)
            refine CJ.openR (Rs := [_, _, _, _, _, _, _, _, _, _, _, _]) 11 [[], [], [1], [], [], [4], [1, 2, 3, 4, 5], [], [1, 2, 3, 4, 5, 6, 7], [0, 1, 2, 3, 4, 5, 6, 7, 8], [0, 1, 2, 3, 4, 5, 6, 7, 8, 9]] [[18], [], [22], [13], [16], [], [5, 12], [], [], [6, 19], []] [[], [], [], [], [], [], [], [], [], [], [18]] rfl rfl (by kernel_rfl) ?_
            apply GJ.st0 1 rfl
            · intro gh; conv => lhs; simp only [slotsZ, zlAt, vs0, resL, at2, eq_self, Nat.reduceEqDiff, reduceIte, Nat.reduceSub, Nat.reduceAdd, List.cons_append, List.nil_append]
              all_goals rfl
            · intro gh X; conv => lhs; simp only [slotsZ, zlAt, vs0, resL, at2, eq_self, Nat.reduceEqDiff, reduceIte, Nat.reduceSub, Nat.reduceAdd, List.cons_append, List.nil_append]
              all_goals rfl
            · intro gh X; conv => lhs; simp only [slotsZ, zlAt, vs0, resL, at2, eq_self, Nat.reduceEqDiff, reduceIte, Nat.reduceSub, Nat.reduceAdd, List.cons_append, List.nil_append]
              all_goals rfl
            ·
              intro gh X K zq zc zq2 zc2 zb zv hK
              refine J.p (PR.loadAll rfl At.z (by simpa [*] using ag29)) rfl ?_
              refine J.nilK ?_
              exact hK zq zc zq2 zc2 zb zv
            ·
              intro gh gh' h
              rfl
            apply GJ.st0 2 rfl
            · intro gh; conv => lhs; simp only [slotsZ, zlAt, vs0, resL, at2, eq_self, Nat.reduceEqDiff, reduceIte, Nat.reduceSub, Nat.reduceAdd, List.cons_append, List.nil_append]
              all_goals rfl
            · intro gh X; conv => lhs; simp only [slotsZ, zlAt, vs0, resL, at2, eq_self, Nat.reduceEqDiff, reduceIte, Nat.reduceSub, Nat.reduceAdd, List.cons_append, List.nil_append]
              all_goals rfl
            · intro gh X; conv => lhs; simp only [slotsZ, zlAt, vs0, resL, at2, eq_self, Nat.reduceEqDiff, reduceIte, Nat.reduceSub, Nat.reduceAdd, List.cons_append, List.nil_append]
              all_goals rfl
            ·
              intro gh X K zq zc zq2 zc2 zb zv hK
              refine J.p (PR.fldA u41 rfl sz22 rfl) rfl ?_
              refine J.nilK ?_
              exact hK zq zc zq2 zc2 zb zv
            ·
              intro gh gh' h
              rfl
            apply GJ.st0 3 rfl
            · intro gh; conv => lhs; simp only [slotsZ, zlAt, vs0, resL, at2, eq_self, Nat.reduceEqDiff, reduceIte, Nat.reduceSub, Nat.reduceAdd, List.cons_append, List.nil_append]
              all_goals rfl
            · intro gh X; conv => lhs; simp only [slotsZ, zlAt, vs0, resL, at2, eq_self, Nat.reduceEqDiff, reduceIte, Nat.reduceSub, Nat.reduceAdd, List.cons_append, List.nil_append]
              all_goals rfl
            · intro gh X; conv => lhs; simp only [slotsZ, zlAt, vs0, resL, at2, eq_self, Nat.reduceEqDiff, reduceIte, Nat.reduceSub, Nat.reduceAdd, List.cons_append, List.nil_append]
              all_goals rfl
            ·
              intro gh X K zq zc zq2 zc2 zb zv hK
              refine J.p (PR.load rfl At.z rfl pl22) rfl ?_
              refine J.nilK ?_
              exact hK zq zc zq2 zc2 zb zv
            ·
              intro gh gh' h
              rfl
            apply GJ.st0 4 rfl
            · intro gh; conv => lhs; simp only [slotsZ, zlAt, vs0, resL, at2, eq_self, Nat.reduceEqDiff, reduceIte, Nat.reduceSub, Nat.reduceAdd, List.cons_append, List.nil_append]
              all_goals rfl
            · intro gh X; conv => lhs; simp only [slotsZ, zlAt, vs0, resL, at2, eq_self, Nat.reduceEqDiff, reduceIte, Nat.reduceSub, Nat.reduceAdd, List.cons_append, List.nil_append]
              all_goals rfl
            · intro gh X; conv => lhs; simp only [slotsZ, zlAt, vs0, resL, at2, eq_self, Nat.reduceEqDiff, reduceIte, Nat.reduceSub, Nat.reduceAdd, List.cons_append, List.nil_append]
              all_goals rfl
            ·
              intro gh X K zq zc zq2 zc2 zb zv hK
              refine J.p (PR.loadAll rfl At.z (by simpa [*] using ag29)) rfl ?_
              refine J.nilK ?_
              exact hK zq zc zq2 zc2 zb zv
            ·
              intro gh gh' h
              rfl
            apply GJ.st0 5 rfl
            · intro gh; conv => lhs; simp only [slotsZ, zlAt, vs0, resL, at2, eq_self, Nat.reduceEqDiff, reduceIte, Nat.reduceSub, Nat.reduceAdd, List.cons_append, List.nil_append]
              all_goals rfl
            · intro gh X; conv => lhs; simp only [slotsZ, zlAt, vs0, resL, at2, eq_self, Nat.reduceEqDiff, reduceIte, Nat.reduceSub, Nat.reduceAdd, List.cons_append, List.nil_append]
              all_goals rfl
            · intro gh X; conv => lhs; simp only [slotsZ, zlAt, vs0, resL, at2, eq_self, Nat.reduceEqDiff, reduceIte, Nat.reduceSub, Nat.reduceAdd, List.cons_append, List.nil_append]
              all_goals rfl
            ·
              intro gh X K zq zc zq2 zc2 zb zv hK
              refine J.p (PR.loadAll rfl At.z (by simpa using ag86)) rfl ?_
              refine J.nilK ?_
              exact hK zq zc zq2 zc2 zb zv
            ·
              intro gh gh' h
              rfl
            apply GJ.st1 6 rfl
            · intro gh; conv => lhs; simp only [slotsZ, zlAt, vs0, resL, at2, eq_self, Nat.reduceEqDiff, reduceIte, Nat.reduceSub, Nat.reduceAdd, List.cons_append, List.nil_append]
              all_goals rfl
            · intro gh X; conv => lhs; simp only [slotsZ, zlAt, vs0, resL, at2, eq_self, Nat.reduceEqDiff, reduceIte, Nat.reduceSub, Nat.reduceAdd, List.cons_append, List.nil_append]
              all_goals rfl
            · intro gh X; conv => lhs; simp only [slotsZ, zlAt, vs0, resL, at2, eq_self, Nat.reduceEqDiff, reduceIte, Nat.reduceSub, Nat.reduceAdd, List.cons_append, List.nil_append]
              all_goals rfl
            ·
              intro gh X K zq zc zq2 zc2 zb zv hK
              refine J.call fn149 rfl rfl fun w hH => (l01Single_c hbm (by omega) hH).mono ?_
              rintro _ w ⟨qo97, co97, rfl, hH⟩
              refine ⟨_, rfl, fun a hF => J.of hF hH ?_⟩
              refine J.nilK ?_
              exact hK qo97 co97 zq2 zc2 zb zv
            ·
              intro gh gh' h
              refine ⟨?_, ?_⟩ <;> rfl
            apply GJ.st1 7 rfl
            · intro gh; conv => lhs; simp only [slotsZ, zlAt, vs0, resL, at2, eq_self, Nat.reduceEqDiff, reduceIte, Nat.reduceSub, Nat.reduceAdd, List.cons_append, List.nil_append]
              all_goals rfl
            · intro gh X; conv => lhs; simp only [slotsZ, zlAt, vs0, resL, at2, eq_self, Nat.reduceEqDiff, reduceIte, Nat.reduceSub, Nat.reduceAdd, List.cons_append, List.nil_append]
              all_goals rfl
            · intro gh X; conv => lhs; simp only [slotsZ, zlAt, vs0, resL, at2, eq_self, Nat.reduceEqDiff, reduceIte, Nat.reduceSub, Nat.reduceAdd, List.cons_append, List.nil_append]
              all_goals rfl
            ·
              intro gh X K zq zc zq2 zc2 zb zv hK
              refine J.call fn148 rfl rfl fun w hH => hH.lend (.s .z) fun Hl1 hle1 hA1 hB1 hH => hH.lend .z fun Hl2 hle2 hA2 hB2 hH => (l01Times_c ((had.le hle1).le hle2) ((own_terms (by simp only [toS_ofS, addS_one]; exact gt1.wf (by omega)) hA1).le hle2) (own_terms (one_wf hbm) hA2) hn hd (by rw [toS_ofS]; exact times_kex (one_g hlp) (hf9 k hkl).1.g (one_kex hle) (hk9 k hkl)) (one_kex hbe) (by simp only [toS_ofS, addS_one]; exact gt1.g) (one_g hbp) (by omega) (by have h := times_len ad (toS (ofS (addS [] (leftP (tm f i).mono k) 1))) (toS (fm af k)); rw [toS_len, toS_len, one_len] at h; rw [one_len, ofS_len]; omega) (by have h := times_len ad (toS (ofS (addS [] (leftP (tm f i).mono k) 1))) (toS (fm af k)); rw [toS_len, toS_len, one_len] at h; rw [ofS_len]; omega) hH).mono ?_
              rintro _ w ⟨qo98, co98, rfl, hH⟩
              replace hH := hB2 _ _ hH
              replace hH := hB1 _ _ hH
              refine ⟨_, rfl, fun a hF => J.of hF hH ?_⟩
              refine EJ.front .z ?_
              refine EJ.front (.s .z) ?_
              refine EJ.front (.s (.s .z)) ?_
              refine J.nilK ?_
              exact hK qo98 co98 zq2 zc2 zb zv
            ·
              intro gh gh' h
              refine ⟨?_, ?_⟩ <;> (first | simp only [h 5 rfl] | rfl)
            apply GJ.st0 8 rfl
            · intro gh; conv => lhs; simp only [slotsZ, zlAt, vs0, resL, at2, eq_self, Nat.reduceEqDiff, reduceIte, Nat.reduceSub, Nat.reduceAdd, List.cons_append, List.nil_append]
              all_goals rfl
            · intro gh X; conv => lhs; simp only [slotsZ, zlAt, vs0, resL, at2, eq_self, Nat.reduceEqDiff, reduceIte, Nat.reduceSub, Nat.reduceAdd, List.cons_append, List.nil_append]
              all_goals rfl
            · intro gh X; conv => lhs; simp only [slotsZ, zlAt, vs0, resL, at2, eq_self, Nat.reduceEqDiff, reduceIte, Nat.reduceSub, Nat.reduceAdd, List.cons_append, List.nil_append]
              all_goals rfl
            ·
              intro gh X K zq zc zq2 zc2 zb zv hK
              refine J.p (PR.move rfl) rfl ?_
              refine J.nilK ?_
              exact hK zq zc zq2 zc2 zb zv
            ·
              intro gh gh' h
              rfl
            apply GJ.st0 9 rfl
            · intro gh; conv => lhs; simp only [slotsZ, zlAt, vs0, resL, at2, eq_self, Nat.reduceEqDiff, reduceIte, Nat.reduceSub, Nat.reduceAdd, List.cons_append, List.nil_append]
              all_goals rfl
            · intro gh X; conv => lhs; simp only [slotsZ, zlAt, vs0, resL, at2, eq_self, Nat.reduceEqDiff, reduceIte, Nat.reduceSub, Nat.reduceAdd, List.cons_append, List.nil_append]
              all_goals rfl
            · intro gh X; conv => lhs; simp only [slotsZ, zlAt, vs0, resL, at2, eq_self, Nat.reduceEqDiff, reduceIte, Nat.reduceSub, Nat.reduceAdd, List.cons_append, List.nil_append]
              all_goals rfl
            ·
              intro gh X K zq zc zq2 zc2 zb zv hK
              refine J.call fn151 rfl rfl fun w hH => (l01Mod_c (by omega) hH).mono ?_
              rintro _ w ⟨rfl, hH⟩
              refine ⟨_, rfl, fun a hF => J.of hF hH ?_⟩
              refine J.nilK ?_
              exact hK zq zc zq2 zc2 zb zv
            ·
              intro gh gh' h
              first | simp only [h 5 rfl, h 6 rfl] | rfl
            apply GJ.st1 10 rfl
            · intro gh; conv => lhs; simp only [slotsZ, zlAt, vs0, resL, at2, eq_self, Nat.reduceEqDiff, reduceIte, Nat.reduceSub, Nat.reduceAdd, List.cons_append, List.nil_append]
              all_goals rfl
            · intro gh X; conv => lhs; simp only [slotsZ, zlAt, vs0, resL, at2, eq_self, Nat.reduceEqDiff, reduceIte, Nat.reduceSub, Nat.reduceAdd, List.cons_append, List.nil_append]
              all_goals rfl
            · intro gh X; conv => lhs; simp only [slotsZ, zlAt, vs0, resL, at2, eq_self, Nat.reduceEqDiff, reduceIte, Nat.reduceSub, Nat.reduceAdd, List.cons_append, List.nil_append]
              all_goals rfl
            ·
              intro gh X K zq zc zq2 zc2 zb zv hK
              refine J.call fn150 rfl rfl fun w hH => hH.lend (.s .z) fun Hl1 hle1 hA1 hB1 hH => hH.lend .z fun Hl2 hle2 hA2 hB2 hH => (l01Add_c ((own_terms wfO hA1).le hle2) (own_terms (by simp only [toS_ofS, addS_one]; exact gt2.wf (by omega)) hA2) (by rw [toS_ofS]; exact d2_sok hf9 hs hoc (by omega) k) (by simp only [toS_ofS, addS_one]; exact gt2.g) (by omega) (fld_bd _) (by have h1 := dT_len ad (toS (fm af k)) (tm f i).mono k; unfold dT at h1; rw [toS_len] at h1; simp only [toS_ofS, addS_one, ofS_len]; omega) hH).mono ?_
              rintro _ w ⟨qo101, co101, rfl, hH⟩
              replace hH := hB2 _ _ hH
              replace hH := hB1 _ _ hH
              refine ⟨_, rfl, fun a hF => J.of hF hH ?_⟩
              refine EJ.front .z ?_
              refine EJ.front (.s .z) ?_
              refine EJ.front (.s (.s .z)) ?_
              refine J.nilK ?_
              exact hK qo101 co101 zq2 zc2 zb zv
            ·
              intro gh gh' h
              refine ⟨?_, ?_⟩ <;> (first | simp only [h 5 rfl, h 6 rfl] | rfl)
            apply GJ.sn1 11 rfl
            · intro gh; conv => lhs; simp only [slotsZ, zlAt, vs0, resL, at2, eq_self, Nat.reduceEqDiff, reduceIte, Nat.reduceSub, Nat.reduceAdd, List.cons_append, List.nil_append]
              all_goals rfl
            · intro gh X; conv => lhs; simp only [slotsZ, zlAt, vs0, resL, at2, eq_self, Nat.reduceEqDiff, reduceIte, Nat.reduceSub, Nat.reduceAdd, List.cons_append, List.nil_append]
              all_goals rfl
            · intro gh X; conv => lhs; simp only [slotsZ, zlAt, vs0, resL, at2, eq_self, Nat.reduceEqDiff, reduceIte, Nat.reduceSub, Nat.reduceAdd, List.cons_append, List.nil_append]
              all_goals rfl
            ·
              intro gh X K hK
              refine J.storeAll rfl rfl (by first | exact bytesC_one _ | exact intsC_one _ | exact Term.c_one _ | simp [Value.oneCell']) (by simpa [*] using sz29) (by simp [*]) At.z ?_
              refine J.nilK ?_
              exact hK
            ·
              intro gh gh' h
              first | simp only [h 5 rfl, h 6 rfl, h 9 rfl] | rfl
            apply GJ.close [0, 1, 2, 3, 4, 5, 6, 7, 8, 9, 10] [0, 1, 2, 3, 4, 5, 6, 7, 8, 9, 10, 11, 12, 13, 14, 15, 16, 17, 19, 20, 21, 22] foll0 rfl rfl rfl (by rfl)
            · intro gh; conv => lhs; simp only [slotsZ, zlAt, vs0, resL, at2, eq_self, Nat.reduceEqDiff, reduceIte, Nat.reduceSub, Nat.reduceAdd, List.cons_append, List.nil_append]
              all_goals rfl
            · intro gh; conv => lhs; simp only [slotsZ, zlAt, vs0, resL, at2, eq_self, Nat.reduceEqDiff, reduceIte, Nat.reduceSub, Nat.reduceAdd, List.cons_append, List.nil_append]
              all_goals rfl
            intro gh
            generalize (gh 5).c = co97
            generalize (gh 5).q = qo97
            generalize (gh 6).c = co98
            generalize (gh 6).q = qo98
            generalize (gh 9).c = co101
            generalize (gh 9).q = qo101
            clear gh
            refine EJ.inN ?_
            refine EJ.thenN (hK12 ?_)
            refine CJ.region ?_
            refine J.p (PR.move rfl) rfl ?_
            refine J.p (PR.add rfl rfl (by first | exact nw _ (by omega) | rfl)) rfl ?_
            refine J.p (PR.assign rfl) rfl ?_
            refine J.nil ?_
            refine EJ.thenN ?_
            refine EJ.drop (.s (.s (.s (.s (.s (.s (.s (.s (.s (.s (.s .z))))))))))) ?_
            refine EJ.drop .z ?_
            refine EJ.drop .z ?_
            refine EJ.drop (.s (.s .z)) ?_
            refine EJ.drop (.s (.s .z)) ?_
            refine EJ.drop (.s (.s .z)) ?_
            refine EJ.drop (.s (.s .z)) ?_
            refine EJ.drop (.s (.s .z)) ?_
            refine EJ.drop (.s (.s .z)) ?_
            refine EJ.front (.s (.s (.s (.s (.s .z))))) ?_
            refine EJ.front (.s (.s (.s (.s (.s .z))))) ?_
            refine EJ.front (.s (.s (.s (.s (.s .z))))) ?_
            refine EJ.front (.s (.s (.s .z))) ?_
            refine EJ.front (.s (.s (.s (.s .z)))) ?_
            refine EJ.front (.s (.s (.s (.s (.s .z))))) ?_
            exact hAg1 (qo101, co101, k + 1) (by show k + 1 ≤ ad.length; omega) (by show ad.length - (k + 1) < ad.length - k; omega) 68 rfl rfl ⟨rfl, trivial⟩ rfl (by simp only [toS_ofS, addS_one]; rw [← acc_dP (ds := ad) (fs := af) (x := ((tm f i).mono, (tm f i).fac)) (k := k) hpos, fac_pos (sg_pos hn hd hxn (by omega) h79)]; rfl)
    ·
      refine CJ.exit ?_
      refine EJ.thenE ?_
      refine EJ.thenE ?_
      refine EJ.inE ?_
      refine EJ.inN ?_
      refine EJ.thenN (hK7 ?_)
      refine CJ.region ?_
      refine J.p (PR.move rfl) rfl ?_
      refine J.p (PR.add rfl rfl (by first | exact nw _ (by omega) | rfl)) rfl ?_
      refine J.p (PR.assign rfl) rfl ?_
      refine J.nil ?_
      refine EJ.thenN ?_
      refine EJ.drop .z ?_
      exact hAg0 (q1, c1, i + 1) (by show i + 1 ≤ f.length; omega) (by show f.length - (i + 1) < f.length - i; omega) 23 rfl rfl ⟨rfl, trivial⟩ rfl (by dsimp only; rw [dAll_take (by omega), ← dLk_8 hn hxe, show ad.length = k by omega])
  ·
    refine CJ.exit ?_
    refine EJ.thenE ?_
    refine EJ.thenE ?_
    refine EJ.inE ?_
    refine EJ.thenN (hK3 ?_)
    refine CJ.seq fun _ hK32 _ => ?_
    refine CJ.region ?_
    refine J.p (PR.loadAll rfl At.z (by simpa [*] using ag29)) rfl ?_
    refine J.storeAll rfl rfl (by first | exact bytesC_one _ | exact intsC_one _ | exact Term.c_one _ | simp [Value.oneCell']) (by simpa [*] using sz29) (by simp [*]) (.s (.s .z)) ?_
    refine J.nil ?_
    refine EJ.thenN (hK32 ?_)
    refine CJ.ret ?_
    refine EJ.ret1 rfl (Res.agg rfl (.s (.s .z)) (by simpa [*] using ag29)) fun w hH => ?_
    replace hH := hH.sublist (.cons _ (.cons_cons _ (.cons _ (.cons _ (.cons _ (List.Sublist.refl _))))))
    obtain rfl : i = f.length := by omega
    rw [List.take_length] at hH ⊢
    exact ⟨_, _, rfl, hH⟩
end Go.Proofs.Ytpojpokldncglaa.G
