/- The walks: what each Go function does, shown from its text. No condition. -/
import Derived.Test.YtpojpokldncglaaGSlice
import Derived.Test.YtpojpokldncglaaProg
import Derived.Test.YtpojpokldncglaaWa
import Derived.Test.YtpojpokldncglaaWb
import Derived.Test.YtpojpokldncglaaWc
import Derived.Test.YtpojpokldncglaaWd
import Derived.Test.YtpojpokldncglaaWe
import Derived.Test.YtpojpokldncglaaWf
import Derived.Test.YtpojpokldncglaaWg
import Derived.Test.YtpojpokldncglaaWh
import Derived.Test.YtpojpokldncglaaWi
import Derived.Test.YtpojpokldncglaaWj
import Derived.Test.YtpojpokldncglaaWk
import Derived.Test.YtpojpokldncglaaWl
import Derived.Test.YtpojpokldncglaaWm
import Derived.Test.YtpojpokldncglaaWn
set_option linter.unusedVariables false
set_option linter.unusedSimpArgs false
namespace Go.Proofs.Ytpojpokldncglaa.G
open Go Go.RowKit
namespace Wo
theorem u27 : Try.prog.underlying 27 = some (TypeDesc.slice 88) := by kernel_rfl
theorem u88 : Try.prog.underlying 88 = some (TypeDesc.struct #[{ name := "Monomial", type := 86, offset := 0, embedded := false, tag := "", pkgPath := "", byteOffset := 0 }, { name := "Factor", type := 2, offset := 8, embedded := false, tag := "", pkgPath := "", byteOffset := 8 }]) := by kernel_rfl
theorem sz88 : Size Try.prog 88 9 := by unfold Size; kernel_rfl
theorem ze88 : Zero Try.prog 88 [.int .u8 0, .int .u8 0, .int .u8 0, .int .u8 0, .int .u8 0, .int .u8 0, .int .u8 0, .int .u8 0, .int .i64 0] := by unfold Zero; kernel_rfl
theorem ag88 : Agg Try.prog 88 9 := ⟨_, u88, rfl, by kernel_rfl⟩
theorem fn169 : Fn Try.prog 169 := ⟨_, Try.func169, by kernel_rfl, rfl⟩
end Wo
open Wo

def keptK (ts : List Term) (p : Term → Bool) (j : Nat) : List Term := (ts.take j).filter fun t => !p t
def kept (ts : List Term) (p : Term → Bool) : List Term := ts.filter fun t => !p t
theorem keptK_yes {ts : List Term} {p : Term → Bool} {j : Nat} (hj : j < ts.length) (h : p (tm ts j) = false) : keptK ts p (j + 1) = keptK ts p j ++ [tm ts j] := by
  unfold keptK
  rw [take_tm hj, List.filter_append]
  simp [h]
theorem keptK_no {ts : List Term} {p : Term → Bool} {j : Nat} (hj : j < ts.length) (h : p (tm ts j) = true) : keptK ts p (j + 1) = keptK ts p j := by
  unfold keptK
  rw [take_tm hj, List.filter_append]
  simp [h]
theorem keptK_end (ts : List Term) (p : Term → Bool) : keptK ts p ts.length = kept ts p := by simp [keptK, kept]
theorem keptK_len (ts : List Term) (p : Term → Bool) (j : Nat) : (keptK ts p j).length ≤ j := by
  unfold keptK
  have h1 := List.length_filter_le (fun t => !p t) (ts.take j)
  have h2 := List.length_take_le j ts
  omega
theorem keptK_wf {ts : List Term} {p : Term → Bool} {j : Nat} (h : Wfs ts) : Wfs (keptK ts p j) := fun t ht => h t (List.mem_of_mem_take (List.mem_filter.1 ht).1)
theorem kept_wf {ts : List Term} {p : Term → Bool} (h : Wfs ts) : Wfs (kept ts p) := fun t ht => h t (List.mem_filter.1 ht).1
theorem kept_len (ts : List Term) (p : Term → Bool) : (kept ts p).length ≤ ts.length := List.length_filter_le _ _
theorem idxT_neg {ts : List Term} {p : Term → Bool} (h : idxT ts p = -1) : kept ts p = ts := by
  unfold idxT at h
  split at h
  · omega
  · rename_i ha
    unfold kept
    rw [List.filter_eq_self]
    intro t ht
    cases hp : p t with
    | false => rfl
    | true => exact absurd (List.any_eq_true.2 ⟨t, ht, hp⟩) ha
theorem idxT_pos {ts : List Term} {p : Term → Bool} (h : ¬ idxT ts p = -1) : ∃ i : Nat, idxT ts p = i ∧ i < ts.length ∧ keptK ts p (i + 1) = ts.take i := by
  unfold idxT at h ⊢
  split at h
  · rename_i ha
    rw [if_pos ha]
    have hl : ts.findIdx p < ts.length := by
      rw [List.findIdx_lt_length]
      obtain ⟨t, h1, h2⟩ := List.any_eq_true.1 ha
      exact ⟨t, h1, h2⟩
    refine ⟨ts.findIdx p, rfl, hl, ?_⟩
    have hp : p (tm ts (ts.findIdx p)) = true := by rw [← tm_eq hl]; exact List.findIdx_getElem (w := hl)
    rw [keptK_no hl hp]
    unfold keptK
    rw [List.filter_eq_self]
    intro t ht
    obtain ⟨j, hj, rfl⟩ := List.mem_iff_getElem.1 ht
    have hj1 : j < ts.findIdx p := by simp at hj; omega
    have := List.not_of_lt_findIdx hj1
    simpa using this
  · exact absurd rfl h
theorem tsC_take {ts : List Term} {i : Nat} {cs : List Value} (hw : Wfs ts) (hi : i < ts.length) (hcs : cs.take (ts.length * 9) = tsC ts) : cs.take (i * 9) = tsC (ts.take i) := by
  have h1 : cs.take (i * 9) = (tsC ts).take (i * 9) := by rw [← hcs, List.take_take, Nat.min_eq_left (by omega)]
  have hl : (tsC (ts.take i)).length = i * 9 := by rw [tsC_length (fun t ht => hw t (List.mem_of_mem_take ht))]; simp; omega
  rw [h1]
  conv => lhs; rw [← List.take_append_drop i ts, tsC_append]
  rw [List.take_append_of_le_length (by omega), List.take_of_length_le (by omega)]
/-- what the row holds while it is being closed up -/
structure Dl (ts : List Term) (p : Term → Bool) (cs cur : List Value) (j : Nat) : Prop where
  len : cur.length = cs.length
  front : cur.take ((keptK ts p j).length * 9) = tsC (keptK ts p j)
  back : cur.drop (j * 9) = cs.drop (j * 9)
theorem Dl.at {ts : List Term} {p : Term → Bool} {cs cur : List Value} {j : Nat} (h : Dl ts p cs cur j) (hw : Wfs ts) (hj : j < ts.length) (hcs : cs.take (ts.length * 9) = tsC ts) : ∀ x v, (tm ts j).c[x]? = some v → cur[j * 9 + x]? = some v := by
  intro x v hx
  have hx9 : x < 9 := by rw [← Term.c_length (hw.at hj)]; exact (List.getElem?_eq_some_iff.1 hx).1
  have h1 := tsC_get hw hj hx
  rw [← hcs, List.getElem?_take, if_pos (by omega)] at h1
  have h2 := congrArg (·[x]?) h.back
  simp only [List.getElem?_drop] at h2
  rw [h2]
  exact h1
theorem Dl.skip {ts : List Term} {p : Term → Bool} {cs cur : List Value} {j : Nat} (h : Dl ts p cs cur j) (hj : j < ts.length) (hp : p (tm ts j) = true) : Dl ts p cs cur (j + 1) := by
  refine ⟨h.len, by rw [keptK_no hj hp]; exact h.front, ?_⟩
  have := congrArg (List.drop 9) h.back
  simpa [List.drop_drop, show (j + 1) * 9 = j * 9 + 9 by omega] using this
theorem Dl.put {ts : List Term} {p : Term → Bool} {cs cur : List Value} {j : Nat} (h : Dl ts p cs cur j) (hw : Wfs ts) (hj : j < ts.length) (hl : ts.length * 9 ≤ cs.length) (hp : p (tm ts j) = false) :
    Dl ts p cs (cur.take ((keptK ts p j).length * 9) ++ (tm ts j).c ++ cur.drop ((keptK ts p j).length * 9 + (tm ts j).c.length)) (j + 1) := by
  have h9 := Term.c_length (hw.at hj)
  have hk := keptK_len ts p j
  have hcl := h.len
  have hfl : (cur.take ((keptK ts p j).length * 9)).length = (keptK ts p j).length * 9 := by simp; omega
  refine ⟨by simp only [List.length_append, List.length_take, List.length_drop]; omega, ?_, ?_⟩
  · rw [keptK_yes hj hp, List.length_append, List.length_singleton, tsC_append]
    have e1 : tsC [tm ts j] = (tm ts j).c := by simp [tsC]
    rw [e1, ← h.front, List.take_append_of_le_length (by simp only [List.length_append]; omega), List.take_of_length_le (by simp only [List.length_append]; omega)]
  · have h2 := congrArg (List.drop 9) h.back
    simp only [List.drop_drop] at h2
    rw [h9, show (j + 1) * 9 = ((keptK ts p j).length * 9 + 9) + (j * 9 + 9 - ((keptK ts p j).length * 9 + 9)) by omega, ← List.drop_drop, List.drop_append_of_le_length (by simp only [List.length_append]; omega), List.drop_of_length_le (l := cur.take ((keptK ts p j).length * 9) ++ (tm ts j).c) (by simp only [List.length_append]; omega), List.nil_append, List.drop_drop]
    rw [show (keptK ts p j).length * 9 + 9 + (j * 9 + 9 - ((keptK ts p j).length * 9 + 9)) = j * 9 + 9 by omega]
    exact h2

set_option maxHeartbeats 4000000 in
set_option maxRecDepth 10000 in
theorem DeleteFuncT_c {B : World} {H0 H : HP} {L : List SA} {w : World} {qts : Option Addr} {cts : Nat} {ts : List Term} {gp : Nat} {capp : Array Value} {p : Term → Bool}  (hts : Wfs ts) (hgp : Fn Try.prog gp) (hp : ClT B H0 H gp capp p) (hn : ts.length ≤ 1048576) (hH : Hp B H0 H (own 88 9 qts ts.length cts (tsC ts) :: L) w) :
    Calls Try.prog 131 [.slice qts ts.length cts, .func (.func gp) #[] capp].toArray w fun e w' => ∃ q c, e = .returned (.slice q (kept ts p).length c) ∧ Hp B H0 H (own 88 9 q (kept ts p).length c (tsC (kept ts p)) :: L) w' := by
  refine CJ.enter Try.func131 rfl 42 rfl rfl [(0, .slice qts ts.length cts), (1, .func (.func gp) #[] capp)] rfl hH ?_
  clear hH
  refine CJ.seq fun _ hK1 _ => ?_
  refine CJ.region ?_
  refine J.p (PR.assign rfl) rfl ?_
  refine J.nil ?_
  refine EJ.thenN (hK1 ?_)
  refine CJ.seq fun _ hK2 _ => ?_
  refine CJ.region ?_
  refine J.p (PR.move rfl) rfl ?_
  refine J.p (PR.move rfl) rfl ?_
  refine J.call fn169 rfl rfl fun w hH => hH.lend .z fun Hl1 hle1 hA1 hB1 hH => (IndexFuncT_c (own_terms hts hA1) hgp (hp.le hle1) (by omega) hH).mono ?_
  rintro _ w ⟨rfl, hH⟩
  replace hH := hB1 _ _ hH
  refine ⟨_, rfl, fun a hF => J.of hF hH ?_⟩
  refine J.p (PR.assign rfl) rfl ?_
  refine J.nil ?_
  refine EJ.thenN (hK2 ?_)
  refine CJ.seq fun _ hK3 _ => ?_
  refine CJ.seq fun _ hK4 _ => ?_
  refine CJ.region ?_
  refine J.p (PR.move rfl) rfl ?_
  refine J.p (PR.eql rfl rfl) rfl ?_
  refine J.nil ?_
  refine EJ.thenN (hK4 ?_)
  refine CJ.condD rfl (fun h12 => ?_) (fun h12 => ?_)
  ·
    have hkp := idxT_neg h12
    refine CJ.seq fun _ hK5 _ => ?_
    refine CJ.region ?_
    refine J.p (PR.move rfl) rfl ?_
    refine J.p (PR.assign rfl) rfl ?_
    refine J.nil ?_
    refine EJ.thenN (hK5 ?_)
    refine CJ.ret ?_
    refine EJ.thenR ?_
    refine EJ.ret1 rfl (Res.tmp rfl) fun w hH => ?_
    rw [hkp]
    exact ⟨_, _, rfl, hH⟩
  ·
    obtain ⟨i0, hi0, hi1, hi2⟩ := idxT_pos h12
    rw [hi0]
    have hi3 : (keptK ts p (i0 + 1)).length = i0 := by rw [hi2]; simp; omega
    refine CJ.skip ?_
    refine EJ.thenN (hK3 ?_)
    refine CJ.seq fun _ hK6 _ => ?_
    refine CJ.seq fun _ hK7 _ => ?_
    refine CJ.region ?_
    refine J.openOwn (by decide) .z (fun _ h0 => absurd h0 (by omega)) (fun g cs hq hcl hmc hcm hcs => ?_)
    subst hq
    refine J.p (PR.move rfl) rfl ?_
    refine J.p (PR.add rfl rfl (by first | exact nw _ (by omega) | rfl)) rfl ?_
    refine J.p (PR.assign rfl) rfl ?_
    refine J.nil ?_
    refine EJ.thenN (hK7 ?_)
    refine CJ.block ?_
    refine CJ.loopU (σ := Nat × List Value) (fun ⟨j, cur⟩ => [(6, .int .i64 (j : Int)), (5, .int .i64 ((keptK ts p j).length : Nat))]) (fun ⟨j, cur⟩ => H) (fun ⟨j, cur⟩ => obj g (.cells cur.toArray 88 (0, 0)) :: L) (fun ⟨j, cur⟩ => j ≤ ts.length ∧ i0 + 1 ≤ j ∧ (keptK ts p j).length < j ∧ Dl ts p cs cur j) (fun ⟨j, cur⟩ => ts.length - j) (i0 + 1, cs) ⟨by show i0 + 1 ≤ ts.length; omega, Nat.le_refl _, by show (keptK ts p (i0 + 1)).length < i0 + 1; omega, rfl, by rw [hi2, show (ts.take i0).length * 9 = i0 * 9 by simp; omega, tsC_take hts hi1 hcs], rfl⟩ ⟨(vi (by omega)), ⟨(vi (by omega)), trivial⟩⟩ rfl rfl ?_
    rintro ⟨j, cur⟩ hI _ hAg0
    obtain ⟨hk, hj0, hkl, hD⟩ := hI
    have hmc9 : ts.length * 9 ≤ cs.length := by omega
    have hDl := hD.len
    refine CJ.seq fun _ hK8 _ => ?_
    refine CJ.seq fun _ hK9 _ => ?_
    refine CJ.region ?_
    refine J.p (PR.move rfl) rfl ?_
    refine J.p (PR.move rfl) rfl ?_
    refine J.p (PR.lenSlice u27 rfl rfl) rfl ?_
    refine J.p (PR.lss rfl rfl) rfl ?_
    refine J.nil ?_
    refine EJ.thenN (hK9 ?_)
    refine CJ.condD rfl (fun hc19 => ?_) (fun hc19 => ?_)
    ·
      refine CJ.skip ?_
      refine EJ.thenN (hK8 ?_)
      refine CJ.seq fun _ hK10 _ => ?_
      refine CJ.block ?_
      refine CJ.seq fun _ hK11 _ => ?_
      refine CJ.region ?_
      refine J.p (PR.move rfl) rfl ?_
      refine J.p (PR.move rfl) rfl ?_
      refine J.p (PR.idxO u27 sz88 rfl rfl rfl (by omega)) rfl ?_
      refine J.p (PR.loadAgg (tm ts j).c rfl .z (hD.at hts (by omega) hcs) (by rw [Term.c_length (hts.at (by omega))]; exact ag88)) rfl ?_
      refine J.alloc (cs := (default : Term).c) ze88 rfl fun g7 => ?_
      refine J.stTerm rfl rfl sz88 zero_wf (hts.at (i := j) (by omega)) At.z ?_
      refine J.nil ?_
      refine EJ.thenN (hK11 ?_)
      refine CJ.seq fun _ hK12 _ => ?_
      refine CJ.region ?_
      refine J.p (PR.move rfl) rfl ?_
      refine J.p (PR.ldTerm rfl At.z (hts.at (i := j) (by omega)) ag88) rfl ?_
      refine J.callV hgp rfl rfl rfl fun w hH => (hp _ _ w _ (Le.refl _) (hts.at (i := j) (by omega)) hH).mono ?_
      rintro _ w ⟨rfl, hH⟩
      refine ⟨_, rfl, fun a hF => J.of hF hH ?_⟩
      refine J.p (PR.not rfl) rfl ?_
      refine J.nil ?_
      refine EJ.thenN (hK12 ?_)
      refine CJ.cond rfl (fun h29 => ?_) (fun h29 => ?_)
      ·
        refine CJ.seq fun _ hK13 _ => ?_
        refine CJ.region ?_
        refine J.p (PR.move rfl) rfl ?_
        refine J.p (PR.move rfl) rfl ?_
        refine J.p (PR.ldTerm rfl At.z (hts.at (i := j) (by omega)) ag88) rfl ?_
        refine J.p (PR.idxO (i' := (keptK ts p j).length) u27 sz88 rfl rfl rfl (by omega)) rfl ?_
        refine J.stores (cs := cur) (vs := (tm ts j).c) rfl rfl rfl (Term.c_one _) (by rw [Term.c_length (hts.at (by omega))]; exact sz88) (by rw [Term.c_length (hts.at (by omega))]; omega) (.s .z) ?_
        refine J.nil ?_
        refine EJ.thenN (hK13 ?_)
        refine CJ.region ?_
        refine J.p (PR.move rfl) rfl ?_
        refine J.p (PR.add rfl rfl (by first | exact nw _ (by omega) | rfl)) rfl ?_
        refine J.p (PR.assign rfl) rfl ?_
        refine J.nil ?_
        refine EJ.inN ?_
        refine EJ.thenN (hK10 ?_)
        refine CJ.region ?_
        refine J.p (PR.move rfl) rfl ?_
        refine J.p (PR.add rfl rfl (by first | exact nw _ (by omega) | rfl)) rfl ?_
        refine J.p (PR.assign rfl) rfl ?_
        refine J.nil ?_
        refine EJ.thenN ?_
        refine EJ.drop .z ?_
        exact hAg0 (j + 1, _) ⟨by show j + 1 ≤ ts.length; omega, by show i0 + 1 ≤ j + 1; omega, by show (keptK ts p (j + 1)).length < j + 1; rw [keptK_yes (by omega) (nott h29)]; simp; omega, hD.put hts (by omega) hmc9 (nott h29)⟩ (by show ts.length - (j + 1) < ts.length - j; omega) 25 rfl rfl ⟨rfl, ⟨(vi (by rw [keptK_yes (by omega) (nott h29)]; simp)), trivial⟩⟩ rfl rfl
      ·
        refine CJ.skip ?_
        refine EJ.inN ?_
        refine EJ.thenN (hK10 ?_)
        refine CJ.region ?_
        refine J.p (PR.move rfl) rfl ?_
        refine J.p (PR.add rfl rfl (by first | exact nw _ (by omega) | rfl)) rfl ?_
        refine J.p (PR.assign rfl) rfl ?_
        refine J.nil ?_
        refine EJ.thenN ?_
        refine EJ.drop .z ?_
        exact hAg0 (j + 1, _) ⟨by show j + 1 ≤ ts.length; omega, by show i0 + 1 ≤ j + 1; omega, by show (keptK ts p (j + 1)).length < j + 1; rw [keptK_no (by omega) (notf h29)]; omega, hD.skip (by omega) (notf h29)⟩ (by show ts.length - (j + 1) < ts.length - j; omega) 18 rfl rfl ⟨rfl, ⟨(vi (by rw [keptK_no (by omega) (notf h29)])), trivial⟩⟩ rfl rfl
    ·
      refine CJ.exit ?_
      refine EJ.thenE ?_
      refine EJ.thenE ?_
      refine EJ.inE ?_
      refine EJ.thenN (hK6 ?_)
      refine CJ.seq fun _ hK14 _ => ?_
      refine CJ.region ?_
      refine J.p (PR.move rfl) rfl ?_
      refine J.p (PR.move rfl) rfl ?_
      refine J.p (PR.sliceLow (i' := (keptK ts p j).length) u27 sz88 rfl rfl rfl (by omega) (by omega)) rfl ?_
      refine J.clearT u27 ze88 rfl (by omega) (by omega) .z ?_
      refine J.nil ?_
      refine EJ.thenN (hK14 ?_)
      refine CJ.seq fun _ hK15 _ => ?_
      refine CJ.region ?_
      refine J.p (PR.move rfl) rfl ?_
      refine J.p (PR.move rfl) rfl ?_
      refine J.p (PR.sliceHigh (i' := (keptK ts p j).length) u27 sz88 rfl rfl rfl (by omega)) rfl ?_
      refine J.p (PR.assign rfl) rfl ?_
      refine J.nil ?_
      refine EJ.thenN (hK15 ?_)
      refine CJ.ret ?_
      refine EJ.ret1 rfl (Res.tmp rfl) fun w hH => ?_
      obtain rfl : j = ts.length := by omega
      rw [keptK_end] at hH ⊢
      have hf := hD.front
      rw [keptK_end] at hf
      exact ⟨_, _, rfl, hH.shutOwn (by simp only [List.length_append, List.length_take, List.length_drop]; rw [tsC_length (fun t ht => by obtain ⟨_, rfl⟩ := List.mem_replicate.1 ht; exact zero_wf), List.length_replicate]; have := kept_len ts p; omega) (by have := kept_len ts p; omega) hcm (by rw [List.append_assoc, List.take_append_of_le_length (by rw [List.length_take]; have := kept_len ts p; omega), List.take_take, Nat.min_self]; exact hf)⟩
end Go.Proofs.Ytpojpokldncglaa.G
