/- The walks: what each Go function does, shown from its text. No condition. -/
import Derived.Test.YtodmnjbchegnaaaGMake
import Derived.Test.YtodmnjbchegnaaaProg
import Derived.Test.YtodmnjbchegnaaaWa
import Derived.Test.YtodmnjbchegnaaaWb
import Derived.Test.YtodmnjbchegnaaaWc
import Derived.Test.YtodmnjbchegnaaaWd
import Derived.Test.YtodmnjbchegnaaaWe
import Derived.Test.YtodmnjbchegnaaaWf
import Derived.Test.YtodmnjbchegnaaaWg
import Derived.Test.YtodmnjbchegnaaaWh
import Derived.Test.YtodmnjbchegnaaaWi
import Derived.Test.YtodmnjbchegnaaaWj
import Derived.Test.YtodmnjbchegnaaaWk
set_option linter.unusedVariables false
set_option linter.unusedSimpArgs false
namespace Go.Proofs.Ytodmnjbchegnaaa.G
open Go Go.RowKit
namespace Wl
theorem u26 : Try.prog.underlying 26 = some (TypeDesc.slice 2) := by kernel_rfl
theorem u40 : Try.prog.underlying 40 = some (TypeDesc.slice 54) := by kernel_rfl
theorem u42 : Try.prog.underlying 42 = some (TypeDesc.struct #[{ name := "Degrees", type := 26, offset := 0, embedded := false, tag := "", pkgPath := "", byteOffset := 0 }, { name := "Images", type := 40, offset := 1, embedded := false, tag := "", pkgPath := "", byteOffset := 24 }]) := by kernel_rfl
theorem sz2 : Size Try.prog 2 1 := by unfold Size; kernel_rfl
theorem sz26 : Size Try.prog 26 1 := by unfold Size; kernel_rfl
theorem sz42 : Size Try.prog 42 2 := by unfold Size; kernel_rfl
theorem sz54 : Size Try.prog 54 1 := by unfold Size; kernel_rfl
theorem by2 : Bytes Try.prog 2 8 := by unfold Bytes; kernel_rfl
theorem by54 : Bytes Try.prog 54 24 := by unfold Bytes; kernel_rfl
theorem ze2 : Zero Try.prog 2 [.int .i64 0] := by unfold Zero; kernel_rfl
theorem ze42 : Zero Try.prog 42 [.slice none 0 0, .slice none 0 0] := by unfold Zero; kernel_rfl
theorem bz42 : ∀ w, (Instr.build 42 #[]).run Try.prog w = .ok (.agg [.slice none 0 0, .slice none 0 0].toArray) w := fun _ => by kernel_rfl
theorem ze54 : Zero Try.prog 54 [.slice none 0 0] := by unfold Zero; kernel_rfl
theorem pl26 : Plain Try.prog 26 := ⟨_, u26, rfl⟩
theorem ag42 : Agg Try.prog 42 2 := ⟨_, u42, rfl, by kernel_rfl⟩
theorem fn50 : Fn Try.prog 50 := ⟨_, Try.func50, by kernel_rfl, rfl⟩
theorem fn57 : Fn Try.prog 57 := ⟨_, Try.func57, by kernel_rfl, rfl⟩
theorem fn68 : Fn Try.prog 68 := ⟨_, Try.func68, by kernel_rfl, rfl⟩
theorem bd42_1 : ∀ (q1 : Option Addr) (m1 c1 : Nat) w, (Instr.build 42 #[(1, .slice q1 m1 c1)]).run Try.prog w = .ok (.agg [.slice none 0 0, .slice q1 m1 c1].toArray) w := fun q1 m1 c1 _ => by kernel_rfl
end Wl
open Wl

/-- 1, 3, 5 and so on -/
def odds (m : Nat) : List Int := (List.range m).map fun i => 2 * (i : Nat) + 1
@[simp] theorem odds_length (m : Nat) : (odds m).length = m := by simp [odds]
theorem odds_succ (m : Nat) : odds (m + 1) = odds m ++ [2 * (m : Int) + 1] := by simp [odds, List.range_succ]
def ones (m : Nat) : List Int := List.replicate m 1
@[simp] theorem ones_length (m : Nat) : (ones m).length = m := by simp [ones]
theorem ones_succ (m : Nat) : ones (m + 1) = ones m ++ [1] := by simp [ones, List.replicate_succ']
def uniOk (n : Int) : Bool := decide (1 ≤ n) && decide (n ≤ 6)
def uniD (n : Int) : List Int := if uniOk n then odds n.toNat else []
def uniF (n : Int) : List (List Term) := if uniOk n then List.replicate n.toNat [] else []
def uniC (n : Int) : Int := if uniOk n then 0 else 2
def torOk (n : Int) : Bool := decide (0 ≤ n) && decide (n ≤ 8)
def torD (n : Int) : List Int := if torOk n then ones n.toNat else []
def torF (n : Int) : List (List Term) := if torOk n then List.replicate n.toNat [] else []
def torC (n : Int) : Int := if torOk n then 0 else 2
theorem nils_wf {b : Bool} (m : Nat) : Wfss (if b then List.replicate m [] else []) := by
  cases b
  · exact fun f hf => by simp at hf
  · exact Wfss.nils _
theorem nils_len {b : Bool} {m : Nat} : ∀ i, (fm (if b then List.replicate m [] else []) i).length ≤ 9223372036854775807 := fun i => by
  unfold fm
  split
  · rw [List.getD_eq_getElem?_getD, List.getElem?_replicate]
    split <;> simp
  · simp
theorem nils_tot {b : Bool} {m : Nat} : tot (if b then List.replicate m [] else []) = 0 := by
  cases b
  · rfl
  · exact tot_nils _
theorem uniF_wf (n : Int) : Wfss (uniF n) := nils_wf _
theorem torF_wf (n : Int) : Wfss (torF n) := nils_wf _
theorem uniOk_bd {n : Int} (h : uniOk n = true) : 1 ≤ n ∧ n ≤ 6 := by simpa [uniOk] using h
theorem torOk_bd {n : Int} (h : torOk n = true) : 0 ≤ n ∧ n ≤ 8 := by simpa [torOk] using h
theorem uniD_len (n : Int) : (uniD n).length ≤ 8 := by
  unfold uniD
  split
  · rename_i h; have := uniOk_bd h; simp; omega
  · simp
theorem uniF_len (n : Int) : (uniF n).length ≤ 8 := by
  unfold uniF
  split
  · rename_i h; have := uniOk_bd h; simp; omega
  · simp
theorem torD_len (n : Int) : (torD n).length ≤ 8 := by
  unfold torD
  split
  · rename_i h; have := torOk_bd h; simp; omega
  · simp
theorem torF_len (n : Int) : (torF n).length ≤ 8 := by
  unfold torF
  split
  · rename_i h; have := torOk_bd h; simp; omega
  · simp

set_option maxHeartbeats 1000000 in
set_option maxRecDepth 10000 in
theorem sUnitaryModel_c {B : World} {H0 H : HP} {L : List SA} {w : World} {n : Int}  (hH : Hp B H0 H L w) :
    Calls Try.prog 30 [.int .i64 n].toArray w fun e w' => ∃ qd cd qf cf vs, e = .returned (.tuple #[.agg [.slice qd (uniD n).length cd, .slice qf (uniF n).length cf].toArray, .int .i64 (uniC n)]) ∧ Hp B H0 H (own 2 1 qd (uniD n).length cd (intsC (uniD n)) :: ownFs 54 86 qf cf vs (uniF n) :: L) w' := by
  refine CJ.enter Try.func30 rfl 24 rfl rfl [(0, .int .i64 n)] rfl hH ?_
  clear hH
  refine CJ.seq fun _ hK1 _ => ?_
  refine CJ.region ?_
  refine J.alloc ze42 rfl fun g2 => ?_
  refine J.p (PR.assign rfl) rfl ?_
  refine J.nil ?_
  refine EJ.thenN (hK1 ?_)
  refine CJ.seq fun _ hK2 _ => ?_
  refine CJ.seq fun _ hK3 _ => ?_
  refine CJ.region ?_
  refine J.p (PR.move rfl) rfl ?_
  refine J.call fn50 rfl rfl fun w hH => (l01In_c  hH).mono ?_
  rintro _ w ⟨rfl, hH⟩
  refine ⟨_, rfl, fun a hF => J.of hF hH ?_⟩
  refine J.p (PR.not rfl) rfl ?_
  refine J.nil ?_
  refine EJ.thenN (hK3 ?_)
  refine CJ.cond rfl (fun h8 => ?_) (fun h8 => ?_)
  ·
    refine CJ.seq fun _ hK4 _ => ?_
    refine CJ.region ?_
    refine J.p (PR.buildZ bz42) rfl ?_
    refine J.storeAll rfl rfl (by first | exact bytesC_one _ | exact intsC_one _ | exact Term.c_one _ | simp [Value.oneCell']) (by simpa [*] using sz42) (by simp [*]) At.z ?_
    refine J.p (PR.assign rfl) rfl ?_
    refine J.nil ?_
    refine EJ.thenN (hK4 ?_)
    refine CJ.ret ?_
    refine EJ.thenR ?_
    refine EJ.ret2 rfl (Res.agg rfl At.z (by simpa [*] using ag42)) (Res.tmp rfl) fun w hH => ?_
    replace hH := hH.sublist (.cons _ (List.Sublist.refl _))
    have e1 : uniD n = [] := if_neg (by show ¬ uniOk n = true; rw [show uniOk n = false from nott h8]; simp)
    have e2 : uniF n = [] := if_neg (by show ¬ uniOk n = true; rw [show uniOk n = false from nott h8]; simp)
    have e3 : uniC n = 2 := if_neg (by rw [show uniOk n = false from nott h8]; simp)
    rw [e1, e2, e3]
    exact ⟨none, 0, none, 0, nilVs, rfl, (hH.ownFsNil 54 86).own0 2 1⟩
  ·
    have hok : uniOk n = true := notf h8
    have hbd := uniOk_bd hok
    obtain ⟨N, rfl⟩ : ∃ k : Nat, n = (k : Int) := ⟨n.toNat, by omega⟩
    refine CJ.skip ?_
    refine EJ.thenN (hK2 ?_)
    refine CJ.seq fun _ hK5 _ => ?_
    refine CJ.region ?_
    refine J.mk (MK.lit0I u26 sz2) rfl fun qo10 co10 => ?_
    refine J.p (PR.assign rfl) rfl ?_
    refine J.nil ?_
    refine EJ.thenN (hK5 ?_)
    refine CJ.seq fun _ hK6 _ => ?_
    refine CJ.seq fun _ hK7 _ => ?_
    refine CJ.region ?_
    refine J.p (PR.assign rfl) rfl ?_
    refine J.nil ?_
    refine EJ.thenN (hK7 ?_)
    refine CJ.block ?_
    refine CJ.loopU (σ := Option Addr × Nat × Nat) (fun ⟨q, c, k⟩ => [(5, .int .i64 ((k : Int) + 1)), (4, .slice q (odds k).length c)]) (fun ⟨q, c, k⟩ => H) (fun ⟨q, c, k⟩ => own 2 1 q (odds k).length c (intsC (odds k)) :: obj g2 (.cells [.slice none 0 0, .slice none 0 0].toArray 42 (0, 0)) :: L) (fun ⟨q, c, k⟩ => k ≤ N) (fun ⟨q, c, k⟩ => N - k) (qo10, co10, 0) (by omega) ⟨rfl, ⟨rfl, trivial⟩⟩ rfl rfl ?_
    rintro ⟨q, c, k⟩ hI _ hAg0
    have hk := hI
    have hol := odds_length k
    refine CJ.seq fun _ hK8 _ => ?_
    refine CJ.seq fun _ hK9 _ => ?_
    refine CJ.region ?_
    refine J.p (PR.move rfl) rfl ?_
    refine J.p (PR.move rfl) rfl ?_
    refine J.p (PR.leq rfl rfl) rfl ?_
    refine J.nil ?_
    refine EJ.thenN (hK9 ?_)
    refine CJ.condD rfl (fun hc13 => ?_) (fun hc13 => ?_)
    ·
      refine CJ.skip ?_
      refine EJ.thenN (hK8 ?_)
      refine CJ.seq fun _ hK10 _ => ?_
      refine CJ.block ?_
      refine CJ.region ?_
      refine J.p (PR.move rfl) rfl ?_
      refine J.p (PR.move rfl) rfl ?_
      refine J.p (PR.mul rfl rfl (by first | exact nw _ (by omega) | rfl)) rfl ?_
      refine J.p (PR.sub rfl rfl (by first | exact nw _ (by omega) | rfl)) rfl ?_
      refine J.lit1 u26 ze2 sz2 rfl rfl rfl rfl rfl rfl fun g20 => ?_
      refine J.appendI u26 ze2 sz2 by2 rfl rfl (by omega) At.z (fun _ _ => At.z) rfl fun qo21 co21 => ?_
      refine J.p (PR.assign rfl) rfl ?_
      refine J.nil ?_
      refine EJ.inN ?_
      refine EJ.thenN (hK10 ?_)
      refine CJ.region ?_
      refine J.p (PR.move rfl) rfl ?_
      refine J.p (PR.add rfl rfl (by first | exact nw _ (by omega) | rfl)) rfl ?_
      refine J.p (PR.assign rfl) rfl ?_
      refine J.nil ?_
      refine EJ.thenN ?_
      exact hAg0 (qo21, co21, k + 1) (by show k + 1 ≤ N; omega) (by show N - (k + 1) < N - k; omega) 15 rfl rfl ⟨(vi (by omega)), ⟨(by dsimp only; rw [odds_succ, show (2 * (k : Int) + 1) = 2 * ((k : Int) + 1) - 1 by omega]; rfl), trivial⟩⟩ rfl (by dsimp only; rw [odds_succ, show (2 * (k : Int) + 1) = 2 * ((k : Int) + 1) - 1 by omega])
    ·
      refine CJ.exit ?_
      refine EJ.thenE ?_
      refine EJ.thenE ?_
      refine EJ.inE ?_
      refine EJ.thenN (hK6 ?_)
      refine CJ.seq fun _ hK11 _ => ?_
      refine CJ.region ?_
      refine J.p (PR.move rfl) rfl ?_
      refine J.call fn68 rfl rfl fun w hH => hH.lend .z fun Hl1 hle1 hA1 hB1 hH => (l02Free_c (own_ints hA1) (by omega) hH).mono ?_
      rintro _ w ⟨qdo23, cdo23, qfo23, cfo23, vso23, rfl, hH⟩
      replace hH := hB1 _ _ hH
      refine ⟨_, rfl, fun a hF => J.of hF hH ?_⟩
      refine J.storeAll rfl rfl (by first | exact bytesC_one _ | exact intsC_one _ | exact Term.c_one _ | simp [Value.oneCell']) (by simpa [*] using sz42) (by simp [*]) (.s (.s (.s .z))) ?_
      refine J.p (PR.assign rfl) rfl ?_
      refine J.nil ?_
      refine EJ.thenN (hK11 ?_)
      refine CJ.ret ?_
      refine EJ.ret2 rfl (Res.agg rfl (.s (.s (.s .z))) (by simpa [*] using ag42)) (Res.tmp rfl) fun w hH => ?_
      replace hH := hH.sublist (.cons _ (.cons_cons _ (.cons_cons _ (.cons _ (List.Sublist.refl _)))))
      obtain rfl : k = N := by omega
      have e1 : uniD (k : Int) = odds k := if_pos hok
      have e2 : uniF (k : Int) = List.replicate (odds k).length [] := by rw [odds_length]; exact if_pos hok
      have e3 : uniC (k : Int) = 0 := if_pos hok
      rw [e1, e2, e3]
      exact ⟨_, _, _, _, _, rfl, hH⟩
set_option maxHeartbeats 1000000 in
set_option maxRecDepth 10000 in
theorem UnitaryModel_c {B : World} {H0 H : HP} {L : List SA} {w : World} {n : Int}  (hH : Hp B H0 H L w) :
    Calls Try.prog 31 [.int .i64 n].toArray w fun e w' => ∃ qd cd qf cf vs, e = .returned (.tuple #[.agg [.slice qd (uniD n).length cd, .slice qf (uniF n).length cf].toArray, .int .i64 (uniC n)]) ∧ Hp B H0 H (own 2 1 qd (uniD n).length cd (intsC (uniD n)) :: ownFs 54 86 qf cf vs (uniF n) :: L) w' := by
  refine CJ.enter Try.func31 rfl 27 rfl rfl [(0, .int .i64 n)] rfl hH ?_
  clear hH
  refine CJ.seq fun _ hK1 _ => ?_
  refine CJ.region ?_
  refine J.alloc ze42 rfl fun g2 => ?_
  refine J.p (PR.assign rfl) rfl ?_
  refine J.nil ?_
  refine EJ.thenN (hK1 ?_)
  refine CJ.seq fun _ hK2 _ => ?_
  refine CJ.seq fun _ hK3 _ => ?_
  refine CJ.region ?_
  refine J.p (PR.move rfl) rfl ?_
  refine J.call fn57 rfl rfl fun w hH => (within_c  hH).mono ?_
  rintro _ w ⟨rfl, hH⟩
  refine ⟨_, rfl, fun a hF => J.of hF hH ?_⟩
  refine J.p (PR.not rfl) rfl ?_
  refine J.nil ?_
  refine EJ.thenN (hK3 ?_)
  refine CJ.cond rfl (fun h8 => ?_) (fun h8 => ?_)
  ·
    refine CJ.seq fun _ hK4 _ => ?_
    refine CJ.region ?_
    refine J.p (PR.buildZ bz42) rfl ?_
    refine J.storeAll rfl rfl (by first | exact bytesC_one _ | exact intsC_one _ | exact Term.c_one _ | simp [Value.oneCell']) (by simpa [*] using sz42) (by simp [*]) At.z ?_
    refine J.p (PR.assign rfl) rfl ?_
    refine J.nil ?_
    refine EJ.thenN (hK4 ?_)
    refine CJ.ret ?_
    refine EJ.thenR ?_
    refine EJ.ret2 rfl (Res.agg rfl At.z (by simpa [*] using ag42)) (Res.tmp rfl) fun w hH => ?_
    replace hH := hH.sublist (.cons _ (List.Sublist.refl _))
    have e1 : uniD n = [] := if_neg (by show ¬ uniOk n = true; rw [show uniOk n = false from nott h8]; simp)
    have e2 : uniF n = [] := if_neg (by show ¬ uniOk n = true; rw [show uniOk n = false from nott h8]; simp)
    have e3 : uniC n = 2 := if_neg (by rw [show uniOk n = false from nott h8]; simp)
    rw [e1, e2, e3]
    exact ⟨none, 0, none, 0, nilVs, rfl, (hH.ownFsNil 54 86).own0 2 1⟩
  ·
    have hok : uniOk n = true := notf h8
    have hbd := uniOk_bd hok
    obtain ⟨N, rfl⟩ : ∃ k : Nat, n = (k : Int) := ⟨n.toNat, by omega⟩
    refine CJ.skip ?_
    refine EJ.thenN (hK2 ?_)
    refine CJ.seq fun _ hK5 _ => ?_
    refine CJ.region ?_
    refine J.p (PR.move rfl) rfl ?_
    refine J.mk (MK.makeF 86 (m := N) u40 ze54 sz54 by54 rfl rfl rfl rfl (by omega)) rfl fun qo11 co11 => ?_
    refine J.p (PR.build1 rfl (fun w => bd42_1 _ _ _ w)) rfl ?_
    refine J.alloc ze42 rfl fun g4 => ?_
    refine J.storeAll rfl rfl (by first | exact bytesC_one _ | exact intsC_one _ | exact Term.c_one _ | simp [Value.oneCell']) (by simpa [*] using sz42) (by simp [*]) At.z ?_
    refine J.nil ?_
    refine EJ.thenN (hK5 ?_)
    refine CJ.seq fun _ hK6 _ => ?_
    refine CJ.seq fun _ hK7 _ => ?_
    refine CJ.region ?_
    refine J.own0 2 1 ?_
    refine J.p (PR.move rfl) rfl ?_
    refine J.p (PR.move rfl) rfl ?_
    refine J.nil ?_
    refine EJ.thenN (hK7 ?_)
    refine CJ.block ?_
    refine CJ.loopU (σ := Option Addr × Nat × Nat) (fun ⟨q, c, k⟩ => [(14, .int .i64 (k : Int))]) (fun ⟨q, c, k⟩ => H) (fun ⟨q, c, k⟩ => own 2 1 q (odds k).length c (intsC (odds k)) :: obj g4 (.cells [.slice q (odds k).length c, .slice qo11 (List.replicate N ([] : List Term)).length co11].toArray 42 (0, 0)) :: ownFs 54 86 qo11 co11 nilVs (List.replicate N []) :: obj g2 (.cells [.slice none 0 0, .slice none 0 0].toArray 42 (0, 0)) :: L) (fun ⟨q, c, k⟩ => k ≤ N) (fun ⟨q, c, k⟩ => N - k) (none, 0, 0) (by omega) ⟨rfl, trivial⟩ rfl rfl ?_
    rintro ⟨q, c, k⟩ hI _ hAg0
    have hk := hI
    have hol := odds_length k
    refine CJ.seq fun _ hK8 _ => ?_
    refine CJ.region ?_
    refine J.p (PR.lss rfl rfl) rfl ?_
    refine J.nil ?_
    refine EJ.thenN (hK8 ?_)
    refine CJ.seq fun _ hK9 _ => ?_
    refine CJ.condD rfl (fun hc15 => ?_) (fun hc15 => ?_)
    ·
      refine CJ.skip ?_
      refine EJ.thenN (hK9 ?_)
      refine CJ.seq fun _ hK10 _ => ?_
      refine CJ.block ?_
      refine CJ.seq fun _ hK11 _ => ?_
      refine CJ.region ?_
      refine J.p (PR.move rfl) rfl ?_
      refine J.p (PR.assign rfl) rfl ?_
      refine J.nil ?_
      refine EJ.thenN (hK11 ?_)
      refine CJ.region ?_
      refine J.p (PR.fldA u42 rfl sz26 rfl) rfl ?_
      refine J.p (PR.load rfl (.s .z) rfl pl26) rfl ?_
      refine J.p (PR.move rfl) rfl ?_
      refine J.p (PR.mul rfl rfl (by first | exact nw _ (by omega) | rfl)) rfl ?_
      refine J.p (PR.add rfl rfl (by first | exact nw _ (by omega) | rfl)) rfl ?_
      refine J.lit1 u26 ze2 sz2 rfl rfl rfl rfl rfl rfl fun g22 => ?_
      refine J.appendI u26 ze2 sz2 by2 rfl rfl (by omega) At.z (fun _ _ => At.z) rfl fun qo23 co23 => ?_
      refine J.p (PR.fldA u42 rfl sz26 rfl) rfl ?_
      refine J.store rfl rfl rfl rfl sz26 (by simp [*]) (.s .z) ?_
      refine J.nil ?_
      refine EJ.inN ?_
      refine EJ.thenN (hK10 ?_)
      refine CJ.region ?_
      refine J.p (PR.add rfl rfl (by first | exact nw _ (by omega) | rfl)) rfl ?_
      refine J.p (PR.move rfl) rfl ?_
      refine J.nil ?_
      refine EJ.thenN ?_
      exact hAg0 (qo23, co23, k + 1) (by show k + 1 ≤ N; omega) (by show N - (k + 1) < N - k; omega) 14 rfl rfl ⟨rfl, trivial⟩ rfl (by dsimp only; rw [odds_succ]; rfl)
    ·
      refine CJ.exit ?_
      refine EJ.thenE ?_
      refine EJ.thenE ?_
      refine EJ.inE ?_
      refine EJ.thenN (hK6 ?_)
      refine CJ.seq fun _ hK12 _ => ?_
      refine CJ.region ?_
      refine J.p (PR.loadAll rfl (.s .z) (by simpa [*] using ag42)) rfl ?_
      refine J.storeAll rfl rfl (by first | exact bytesC_one _ | exact intsC_one _ | exact Term.c_one _ | simp [Value.oneCell']) (by simpa [*] using sz42) (by simp [*]) (.s (.s (.s .z))) ?_
      refine J.p (PR.assign rfl) rfl ?_
      refine J.nil ?_
      refine EJ.thenN (hK12 ?_)
      refine CJ.ret ?_
      refine EJ.ret2 rfl (Res.agg rfl (.s (.s (.s .z))) (by simpa [*] using ag42)) (Res.tmp rfl) fun w hH => ?_
      replace hH := hH.sublist (.cons_cons _ (.cons _ (.cons_cons _ (.cons _ (List.Sublist.refl _)))))
      obtain rfl : k = N := by omega
      have e1 : uniD (k : Int) = odds k := if_pos hok
      have e2 : uniF (k : Int) = List.replicate k [] := if_pos hok
      have e3 : uniC (k : Int) = 0 := if_pos hok
      rw [e1, e2, e3]
      exact ⟨_, _, _, _, _, rfl, hH⟩
end Go.Proofs.Ytodmnjbchegnaaa.G
