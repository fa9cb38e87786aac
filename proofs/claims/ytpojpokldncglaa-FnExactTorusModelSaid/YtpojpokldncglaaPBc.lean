/- A part of the walk of one law: what the functions compute. No condition. -/
import Derived.Test.YtpojpokldncglaaRows
import Derived.Test.YtpojpokldncglaaProg
import Derived.WalkKit
import Derived.KernelRfl
import Derived.JoinedOf
import Derived.Maps.AppendAt
import Derived.Still
import Derived.ProofKit
import Derived.OpenShut
import Derived.StillTail
import Derived.Deep.Upon
import Derived.WalkSpells
import Derived.Maps.Range
import Derived.DeepKeys4
import Derived.Test.YtpojpokldncglaaPBb
set_option linter.unusedVariables false
set_option linter.unusedSimpArgs false
namespace Go.Proofs.Ytpojpokldncglaa.G
open Go Go.RowKit
namespace Wa
theorem u2 : Try.prog.underlying 2 = some (TypeDesc.int .i64) := by kernel_rfl
theorem u22 : Try.prog.underlying 22 = some (TypeDesc.slice 2) := by kernel_rfl
theorem u5 : Try.prog.underlying 5 = some (TypeDesc.int .u8) := by kernel_rfl
theorem u86 : Try.prog.underlying 86 = some (TypeDesc.array 8 5) := by kernel_rfl
theorem sz2 : Size Try.prog 2 1 := by unfold Size; kernel_rfl
theorem sz5 : Size Try.prog 5 1 := by unfold Size; kernel_rfl
theorem pl2 : Plain Try.prog 2 := ⟨_, u2, rfl⟩
theorem pl5 : Plain Try.prog 5 := ⟨_, u5, rfl⟩
theorem ag86 : Agg Try.prog 86 8 := ⟨_, u86, rfl, by kernel_rfl⟩
theorem fn83 : Fn Try.prog 83 := ⟨_, Try.func83, by kernel_rfl, rfl⟩
end Wa
open Wa
def most (ds : List Int) (i : Nat) : Int := if i < ds.length then (if (ds.getD i 0).tmod 2 = 1 then 1 else 20) else 0
theorem most_ge {ds : List Int} {k : Nat} (h : (ds.length : Int) ≤ k) : most ds k = 0 := by unfold most; rw [if_neg (by omega)]
theorem most_odd {ds : List Int} {k : Nat} (h : ¬ ((ds.length : Int) ≤ k)) (ho : (ds.getD k 0).tmod 2 ≠ 0) (hp : 0 ≤ ds.getD k 0) : most ds k = 1 := by
  unfold most
  rw [Int.tmod_eq_emod_of_nonneg hp] at ho ⊢
  rw [if_pos (by omega), if_pos (by omega)]
theorem most_even {ds : List Int} {k : Nat} (h : ¬ ((ds.length : Int) ≤ k)) (ho : ¬ (ds.getD k 0).tmod 2 ≠ 0) : most ds k = 20 := by
  unfold most
  rw [if_pos (by omega), if_neg (by omega)]
def isMono (ds m : List Int) : Bool := (List.range 8).all fun i => decide (m.getD i 0 ≤ most ds i)
theorem isMono_false {ds m : List Int} {k : Nat} (hk : k < 8) (h : most ds k < m.getD k 0) : isMono ds m = false := by
  unfold isMono
  rw [List.all_eq_false]
  exact ⟨k, by simp [hk], by rw [decide_eq_true_eq]; omega⟩
theorem isMono_true {ds m : List Int} (h : ∀ j, j < 8 → m.getD j 0 ≤ most ds j) : isMono ds m = true := by
  unfold isMono
  rw [List.all_eq_true]
  intro j hj
  simpa using h j (by simpa using hj)
set_option maxRecDepth 10000 in
theorem within_c {B : World} {H0 H : HP} {L : List SA} {w : World} {x : Int} {lo : Int} {hi : Int}   (hH : Hp B H0 H L w) :
    Calls Try.prog 86 [.int .i64 x, .int .i64 lo, .int .i64 hi].toArray w fun e w' => e = .returned (.bool (decide (lo ≤ x) && decide (x ≤ hi))) ∧ Hp B H0 H L w' := by
  refine CJ.enter Try.func86 rfl 15 rfl rfl [(0, .int .i64 x), (1, .int .i64 lo), (2, .int .i64 hi)] rfl hH ?_
  clear hH
  refine CJ.seq fun _ hK1 _ => ?_
  refine CJ.region ?_
  refine J.p (PR.assign rfl) rfl ?_
  refine J.nil ?_
  refine EJ.thenN (hK1 ?_)
  refine CJ.seq fun _ hK2 _ => ?_
  refine CJ.region ?_
  refine J.p (PR.move rfl) rfl ?_
  refine J.p (PR.move rfl) rfl ?_
  refine J.p (PR.geq rfl rfl) rfl ?_
  refine J.p (PR.move rfl) rfl ?_
  refine J.splitB (jd := 10) rfl (fun hg10 => ?_) (fun hg10 => ?_)
  ·
    try have hg10p := of_decide_eq_true hg10
    refine J.gy (PR.move rfl) rfl rfl rfl hg10 ?_
    refine J.gy (PR.move rfl) rfl rfl rfl hg10 ?_
    refine J.gy (PR.leq rfl rfl) rfl rfl rfl hg10 ?_
    refine J.p (PR.pickT rfl hg10 rfl) rfl ?_
    refine J.p (PR.assign rfl) rfl ?_
    refine J.nil ?_
    refine EJ.thenN (hK2 ?_)
    refine CJ.ret ?_
    refine EJ.ret1 rfl (Res.tmp rfl) fun w hH => ?_
    exact ⟨by simp [*], hH⟩
  ·
    try have hg10p := of_decide_eq_false hg10
    refine J.gn rfl rfl rfl hg10 ?_
    refine J.gn rfl rfl rfl hg10 ?_
    refine J.gn rfl rfl rfl hg10 ?_
    refine J.p (PR.pickF rfl hg10 rfl) rfl ?_
    refine J.p (PR.assign rfl) rfl ?_
    refine J.nil ?_
    refine EJ.thenN (hK2 ?_)
    refine CJ.ret ?_
    refine EJ.ret1 rfl (Res.tmp rfl) fun w hH => ?_
    exact ⟨by simp [*], hH⟩
set_option maxRecDepth 10000 in
theorem isMonomial_c {B : World} {H0 H : HP} {L : List SA} {w : World} {qds : Option Addr} {cds : Nat} {ds : List Int} {m : List Int}  (hds : Ints H qds ds) (hm : Mono m) (hn : ds.length ≤ 1048576) (hH : Hp B H0 H L w) :
    Calls Try.prog 139 [.slice qds ds.length cds, .agg (bytesC m).toArray].toArray w fun e w' => e = .returned (.bool (isMono ds m)) ∧ Hp B H0 H L w' := by
  refine CJ.enter Try.func139 rfl 27 rfl rfl [(0, .slice qds ds.length cds), (1, .agg (bytesC m).toArray)] rfl hH ?_
  have hml := hm.len
  clear hH
  refine CJ.seq fun _ hK1 _ => ?_
  refine CJ.region ?_
  refine J.box rfl rfl rfl fun g3 => ?_
  refine J.p (PR.assign rfl) rfl ?_
  refine J.nil ?_
  refine EJ.thenN (hK1 ?_)
  refine CJ.seq fun _ hK2 _ => ?_
  refine CJ.seq fun _ hK3 _ => ?_
  refine CJ.region ?_
  refine J.p (PR.loadAll rfl At.z (by simpa [*] using ag86)) rfl ?_
  refine J.p (PR.move rfl) rfl ?_
  refine J.nil ?_
  refine EJ.thenN (hK3 ?_)
  refine CJ.block ?_
  refine CJ.loopU (σ := Nat) (fun (k : Nat) => [(9, .int .i64 (k : Int))]) (fun (k : Nat) => H) (fun (k : Nat) => obj g3 (.cells (bytesC m).toArray 86 (0, 0)) :: L) (fun (k : Nat) => k ≤ 8 ∧ ∀ j, j < k → m.getD j 0 ≤ most ds j) (fun (k : Nat) => 8 - k) 0 ⟨by omega, fun j hj => by omega⟩ ⟨rfl, trivial⟩ rfl rfl ?_
  rintro k hI _ hAg0
  obtain ⟨hk, hm9⟩ := hI
  have hml := hm.len
  refine CJ.seq fun _ hK4 _ => ?_
  refine CJ.region ?_
  refine J.p (PR.lss rfl rfl) rfl ?_
  refine J.nil ?_
  refine EJ.thenN (hK4 ?_)
  refine CJ.seq fun _ hK5 _ => ?_
  refine CJ.condD rfl (fun hc10 => ?_) (fun hc10 => ?_)
  ·
    refine CJ.skip ?_
    refine EJ.thenN (hK5 ?_)
    refine CJ.seq fun _ hK6 _ => ?_
    refine CJ.block ?_
    refine CJ.seq fun _ hK7 _ => ?_
    refine CJ.region ?_
    refine J.p (PR.move rfl) rfl ?_
    refine J.p (PR.index u86 sz5 pl5 rfl rfl rfl (by omega) (by first | exact bytesC_get (by simp [*]; omega) | exact intsC_get (by simp [*]; omega))) rfl ?_
    refine J.p (PR.assign rfl) rfl ?_
    refine J.p (PR.assign rfl) rfl ?_
    refine J.nil ?_
    refine EJ.thenN (hK7 ?_)
    refine CJ.seq fun _ hK8 _ => ?_
    refine CJ.region ?_
    refine J.p (PR.assign rfl) rfl ?_
    refine J.nil ?_
    refine EJ.thenN (hK8 ?_)
    refine CJ.cutU (σ := Unit) (fun (_ : Unit) => [(7, .int .u8 (most ds k))]) (fun (_ : Unit) => H) (fun (_ : Unit) => obj g3 (.cells (bytesC m).toArray 86 (0, 0)) :: L) (fun (_ : Unit) => True) ?_ ?_
    ·
      intro _ hMt1
      refine CJ.seq fun _ hK9 _ => ?_
      refine CJ.region ?_
      refine J.p (PR.move rfl) rfl ?_
      refine J.p (PR.move rfl) rfl ?_
      refine J.p (PR.lenSlice u22 rfl rfl) rfl ?_
      refine J.p (PR.lss rfl rfl) rfl ?_
      refine J.nil ?_
      refine EJ.thenN (hK9 ?_)
      refine CJ.condD rfl (fun hc16 => ?_) (fun hc16 => ?_)
      ·
        refine CJ.seq fun _ hK10 _ => ?_
        refine CJ.region ?_
        refine J.p (PR.assign rfl) rfl ?_
        refine J.nil ?_
        refine EJ.thenN (hK10 ?_)
        refine CJ.seq fun _ hK11 _ => ?_
        refine CJ.region ?_
        refine J.p (PR.move rfl) rfl ?_
        refine J.p (PR.move rfl) rfl ?_
        refine J.p (PR.idx1 u22 sz2 rfl rfl rfl (by omega) hds.sm) rfl ?_
        refine J.p (PR.loadH rfl (hds _ (by omega)) pl2) rfl ?_
        refine J.p (PR.rem rfl rfl (by decide) rfl) rfl ?_
        refine J.p (PR.eql rfl rfl) rfl ?_
        refine J.nil ?_
        refine EJ.thenN (hK11 ?_)
        refine CJ.condD rfl (fun hc22 => ?_) (fun hc22 => ?_)
        ·
          refine CJ.region ?_
          refine J.p (PR.assign rfl) rfl ?_
          refine J.nil ?_
          refine EJ.thenN ?_
          exact hMt1 () trivial 12 rfl rfl ⟨(vi8 (by unfold most; rw [if_pos (by omega), if_pos hc22])), trivial⟩ rfl rfl
        ·
          refine CJ.skip ?_
          refine EJ.thenN ?_
          exact hMt1 () trivial 11 rfl rfl ⟨(vi8 (by unfold most; rw [if_pos (by omega), if_neg hc22])), trivial⟩ rfl rfl
      ·
        refine CJ.skip ?_
        refine EJ.thenN ?_
        exact hMt1 () trivial 4 rfl rfl ⟨(vi8 (by unfold most; rw [if_neg (by omega)])), trivial⟩ rfl rfl
    ·
      rintro _ _
      refine CJ.seq fun _ hK12 _ => ?_
      refine CJ.region ?_
      refine J.p (PR.move rfl) rfl ?_
      refine J.p (PR.move rfl) rfl ?_
      refine J.p (PR.gtr rfl rfl) rfl ?_
      refine J.nil ?_
      refine EJ.thenN (hK12 ?_)
      refine CJ.condD rfl (fun hc25 => ?_) (fun hc25 => ?_)
      ·
        refine CJ.seq fun _ hK13 _ => ?_
        refine CJ.region ?_
        refine J.p (PR.assign rfl) rfl ?_
        refine J.nil ?_
        refine EJ.thenN (hK13 ?_)
        refine CJ.ret ?_
        refine EJ.inR ?_
        refine EJ.thenR ?_
        refine EJ.thenR ?_
        refine EJ.inR ?_
        refine EJ.thenR ?_
        refine EJ.ret1 rfl (Res.tmp rfl) fun w hH => ?_
        replace hH := hH.tail
        exact ⟨by rw [isMono_false (k := k) (by omega) (by omega)], hH⟩
      ·
        refine CJ.skip ?_
        refine EJ.inN ?_
        refine EJ.thenN (hK6 ?_)
        refine CJ.region ?_
        refine J.p (PR.add rfl rfl (by first | exact nw _ (by omega) | rfl)) rfl ?_
        refine J.p (PR.move rfl) rfl ?_
        refine J.nil ?_
        refine EJ.thenN ?_
        exact hAg0 (k + 1) ⟨by omega, fun j hj => by rcases Nat.lt_or_ge j k with h | h; exact hm9 j h; obtain rfl : j = k := (by omega); omega⟩ (by omega) 13 rfl rfl ⟨rfl, trivial⟩ rfl rfl
  ·
    refine CJ.exit ?_
    refine EJ.thenE ?_
    refine EJ.thenE ?_
    refine EJ.inE ?_
    refine EJ.thenN (hK2 ?_)
    refine CJ.seq fun _ hK14 _ => ?_
    refine CJ.region ?_
    refine J.p (PR.assign rfl) rfl ?_
    refine J.nil ?_
    refine EJ.thenN (hK14 ?_)
    refine CJ.ret ?_
    refine EJ.ret1 rfl (Res.tmp rfl) fun w hH => ?_
    replace hH := hH.tail
    exact ⟨by rw [isMono_true (fun j hj => hm9 j (by omega))], hH⟩
def isDeg (ds : List Int) : Bool := decide (ds.length ≤ 8) && ds.all fun x => decide (1 ≤ x) && decide (x ≤ 12)
theorem all_false {ds : List Int} {p : Int → Bool} {k : Nat} (hk : k < ds.length) (h : p (ds.getD k 0) = false) : ds.all p = false := by
  rw [List.all_eq_false]
  exact ⟨ds.getD k 0, by rw [List.getD_eq_getElem?_getD, List.getElem?_eq_getElem hk]; exact List.getElem_mem hk, by rw [h]; simp⟩
theorem all_true {ds : List Int} {p : Int → Bool} (h : ∀ j, j < ds.length → p (ds.getD j 0) = true) : ds.all p = true := by
  rw [List.all_eq_true]
  intro x hx
  obtain ⟨j, hj, rfl⟩ := List.mem_iff_getElem.1 hx
  have := h j hj
  rwa [List.getD_eq_getElem?_getD, List.getElem?_eq_getElem hj] at this
theorem isDeg_false {ds : List Int} {k : Nat} (hk : k < ds.length) (h : (decide (1 ≤ ds.getD k 0) && decide (ds.getD k 0 ≤ 12)) = false) : isDeg ds = false := by
  unfold isDeg
  rw [all_false hk h, Bool.and_false]
theorem isDeg_true {ds : List Int} (h : ∀ j, j < ds.length → (decide (1 ≤ ds.getD j 0) && decide (ds.getD j 0 ≤ 12)) = true) : isDeg ds = decide ((ds.length : Int) ≤ 8) := by
  unfold isDeg
  rw [all_true h, Bool.and_true]
  exact decide_eq_decide.2 (by omega)
theorem upto {p : Nat → Prop} {k : Nat} (h : ∀ j, j < k → p j) (hk : p k) : ∀ j, j < k + 1 → p j := fun j hj => by
  rcases Nat.lt_or_ge j k with h1 | h1
  · exact h j h1
  · obtain rfl : j = k := by omega
    exact hk
set_option maxRecDepth 10000 in
theorem l01In_c {B : World} {H0 H : HP} {L : List SA} {w : World} {x : Int} {lo : Int} {hi : Int}   (hH : Hp B H0 H L w) :
    Calls Try.prog 83 [.int .i64 x, .int .i64 lo, .int .i64 hi].toArray w fun e w' => e = .returned (.bool (decide (lo ≤ x) && decide (x ≤ hi))) ∧ Hp B H0 H L w' := by
  refine CJ.enter Try.func83 rfl 15 rfl rfl [(0, .int .i64 x), (1, .int .i64 lo), (2, .int .i64 hi)] rfl hH ?_
  clear hH
  refine CJ.seq fun _ hK1 _ => ?_
  refine CJ.region ?_
  refine J.p (PR.assign rfl) rfl ?_
  refine J.nil ?_
  refine EJ.thenN (hK1 ?_)
  refine CJ.seq fun _ hK2 _ => ?_
  refine CJ.region ?_
  refine J.p (PR.move rfl) rfl ?_
  refine J.p (PR.move rfl) rfl ?_
  refine J.p (PR.geq rfl rfl) rfl ?_
  refine J.p (PR.move rfl) rfl ?_
  refine J.splitB (jd := 10) rfl (fun hg10 => ?_) (fun hg10 => ?_)
  ·
    try have hg10p := of_decide_eq_true hg10
    refine J.gy (PR.move rfl) rfl rfl rfl hg10 ?_
    refine J.gy (PR.move rfl) rfl rfl rfl hg10 ?_
    refine J.gy (PR.leq rfl rfl) rfl rfl rfl hg10 ?_
    refine J.p (PR.pickT rfl hg10 rfl) rfl ?_
    refine J.p (PR.assign rfl) rfl ?_
    refine J.nil ?_
    refine EJ.thenN (hK2 ?_)
    refine CJ.ret ?_
    refine EJ.ret1 rfl (Res.tmp rfl) fun w hH => ?_
    exact ⟨by simp [*], hH⟩
  ·
    try have hg10p := of_decide_eq_false hg10
    refine J.gn rfl rfl rfl hg10 ?_
    refine J.gn rfl rfl rfl hg10 ?_
    refine J.gn rfl rfl rfl hg10 ?_
    refine J.p (PR.pickF rfl hg10 rfl) rfl ?_
    refine J.p (PR.assign rfl) rfl ?_
    refine J.nil ?_
    refine EJ.thenN (hK2 ?_)
    refine CJ.ret ?_
    refine EJ.ret1 rfl (Res.tmp rfl) fun w hH => ?_
    exact ⟨by simp [*], hH⟩
set_option maxRecDepth 10000 in
theorem l01Degrees_c {B : World} {H0 H : HP} {L : List SA} {w : World} {qds : Option Addr} {cds : Nat} {ds : List Int}  (hds : Ints H qds ds) (hn : ds.length ≤ 1048576) (hH : Hp B H0 H L w) :
    Calls Try.prog 128 [.slice qds ds.length cds].toArray w fun e w' => e = .returned (.bool (isDeg ds)) ∧ Hp B H0 H L w' := by
  refine CJ.enter Try.func128 rfl 19 rfl rfl [(0, .slice qds ds.length cds)] rfl hH ?_
  clear hH
  refine CJ.seq fun _ hK1 _ => ?_
  refine CJ.region ?_
  refine J.p (PR.assign rfl) rfl ?_
  refine J.nil ?_
  refine EJ.thenN (hK1 ?_)
  refine CJ.seq fun _ hK2 _ => ?_
  refine CJ.seq fun _ hK3 _ => ?_
  refine CJ.region ?_
  refine J.p (PR.assign rfl) rfl ?_
  refine J.nil ?_
  refine EJ.thenN (hK3 ?_)
  refine CJ.block ?_
  refine CJ.loopU (σ := Nat) (fun (k : Nat) => [(3, .int .i64 (k : Int))]) (fun (k : Nat) => H) (fun (k : Nat) => L) (fun (k : Nat) => k ≤ ds.length ∧ ∀ j, j < k → (decide (1 ≤ ds.getD j 0) && decide (ds.getD j 0 ≤ 12)) = true) (fun (k : Nat) => ds.length - k) 0 ⟨by omega, fun j hj => by omega⟩ ⟨rfl, trivial⟩ rfl rfl ?_
  rintro k hI _ hAg0
  have hk := hI.1
  refine CJ.seq fun _ hK4 _ => ?_
  refine CJ.seq fun _ hK5 _ => ?_
  refine CJ.region ?_
  refine J.p (PR.move rfl) rfl ?_
  refine J.p (PR.move rfl) rfl ?_
  refine J.p (PR.lenSlice u22 rfl rfl) rfl ?_
  refine J.p (PR.lss rfl rfl) rfl ?_
  refine J.nil ?_
  refine EJ.thenN (hK5 ?_)
  refine CJ.condD rfl (fun hc7 => ?_) (fun hc7 => ?_)
  ·
    refine CJ.skip ?_
    refine EJ.thenN (hK4 ?_)
    refine CJ.seq fun _ hK6 _ => ?_
    refine CJ.block ?_
    refine CJ.seq fun _ hK7 _ => ?_
    refine CJ.region ?_
    refine J.p (PR.move rfl) rfl ?_
    refine J.p (PR.move rfl) rfl ?_
    refine J.p (PR.idx1 u22 sz2 rfl rfl rfl (by omega) hds.sm) rfl ?_
    refine J.p (PR.loadH rfl (hds _ (by omega)) pl2) rfl ?_
    refine J.call fn83 rfl rfl fun w hH => (l01In_c  hH).mono ?_
    rintro _ w ⟨rfl, hH⟩
    refine ⟨_, rfl, fun a hF => J.of hF hH ?_⟩
    refine J.p (PR.not rfl) rfl ?_
    refine J.nil ?_
    refine EJ.thenN (hK7 ?_)
    refine CJ.cond rfl (fun hc => ?_) (fun hc => ?_)
    ·
      refine CJ.seq fun _ hK8 _ => ?_
      refine CJ.region ?_
      refine J.p (PR.assign rfl) rfl ?_
      refine J.nil ?_
      refine EJ.thenN (hK8 ?_)
      refine CJ.ret ?_
      refine EJ.inR ?_
      refine EJ.thenR ?_
      refine EJ.thenR ?_
      refine EJ.inR ?_
      refine EJ.thenR ?_
      refine EJ.ret1 rfl (Res.tmp rfl) fun w hH => ?_
      exact ⟨rb (isDeg_false (k := k) (by omega) (nott hc)).symm, hH⟩
    ·
      refine CJ.skip ?_
      refine EJ.inN ?_
      refine EJ.thenN (hK6 ?_)
      refine CJ.region ?_
      refine J.p (PR.move rfl) rfl ?_
      refine J.p (PR.add rfl rfl (by first | exact nw _ (by omega) | rfl)) rfl ?_
      refine J.p (PR.assign rfl) rfl ?_
      refine J.nil ?_
      refine EJ.thenN ?_
      exact hAg0 (k + 1) ⟨by omega, upto hI.2 (notf hc)⟩ (by omega) 14 rfl rfl ⟨rfl, trivial⟩ rfl rfl
  ·
    refine CJ.exit ?_
    refine EJ.thenE ?_
    refine EJ.thenE ?_
    refine EJ.inE ?_
    refine EJ.thenN (hK2 ?_)
    refine CJ.seq fun _ hK9 _ => ?_
    refine CJ.region ?_
    refine J.p (PR.move rfl) rfl ?_
    refine J.p (PR.lenSlice u22 rfl rfl) rfl ?_
    refine J.p (PR.leq rfl rfl) rfl ?_
    refine J.p (PR.assign rfl) rfl ?_
    refine J.nil ?_
    refine EJ.thenN (hK9 ?_)
    refine CJ.ret ?_
    refine EJ.ret1 rfl (Res.tmp rfl) fun w hH => ?_
    exact ⟨rb (isDeg_true (fun j hj => hI.2 j (by omega))).symm, hH⟩
set_option maxRecDepth 10000 in
theorem l01Mono_c {B : World} {H0 H : HP} {L : List SA} {w : World} {qds : Option Addr} {cds : Nat} {ds : List Int} {m : List Int}  (hds : Ints H qds ds) (hm : Mono m) (hn : ds.length ≤ 1048576) (hp : ∀ j, j < ds.length → 0 ≤ ds.getD j 0) (hH : Hp B H0 H L w) :
    Calls Try.prog 166 [.slice qds ds.length cds, .agg (bytesC m).toArray].toArray w fun e w' => e = .returned (.bool (isMono ds m)) ∧ Hp B H0 H L w' := by
  refine CJ.enter Try.func166 rfl 38 rfl rfl [(0, .slice qds ds.length cds), (1, .agg (bytesC m).toArray)] rfl hH ?_
  have hml := hm.len
  clear hH
  refine CJ.seq fun _ hK1 _ => ?_
  refine CJ.region ?_
  refine J.box rfl rfl rfl fun g3 => ?_
  refine J.p (PR.assign rfl) rfl ?_
  refine J.nil ?_
  refine EJ.thenN (hK1 ?_)
  refine CJ.seq fun _ hK2 _ => ?_
  refine CJ.seq fun _ hK3 _ => ?_
  refine CJ.region ?_
  refine J.p (PR.assign rfl) rfl ?_
  refine J.nil ?_
  refine EJ.thenN (hK3 ?_)
  refine CJ.block ?_
  refine CJ.loopU (σ := Nat) (fun (k : Nat) => [(5, .int .i64 (k : Int))]) (fun (k : Nat) => H) (fun (k : Nat) => obj g3 (.cells (bytesC m).toArray 86 (0, 0)) :: L) (fun (k : Nat) => k ≤ 8 ∧ ∀ j, j < k → m.getD j 0 ≤ most ds j) (fun (k : Nat) => 8 - k) 0 ⟨by omega, fun j hj => by omega⟩ ⟨rfl, trivial⟩ rfl rfl ?_
  rintro k hI _ hAg0
  have hk := hI.1
  refine CJ.seq fun _ hK4 _ => ?_
  refine CJ.seq fun _ hK5 _ => ?_
  refine CJ.region ?_
  refine J.p (PR.move rfl) rfl ?_
  refine J.p (PR.lss rfl rfl) rfl ?_
  refine J.nil ?_
  refine EJ.thenN (hK5 ?_)
  refine CJ.condD rfl (fun hc7 => ?_) (fun hc7 => ?_)
  ·
    refine CJ.skip ?_
    refine EJ.thenN (hK4 ?_)
    refine CJ.seq fun _ hK6 _ => ?_
    refine CJ.block ?_
    refine CJ.block ?_
    refine CJ.seq fun _ hK7 _ => ?_
    refine CJ.region ?_
    refine J.p (PR.move rfl) rfl ?_
    refine J.p (PR.move rfl) rfl ?_
    refine J.p (PR.lenSlice u22 rfl rfl) rfl ?_
    refine J.p (PR.geq rfl rfl) rfl ?_
    refine J.p (PR.assign rfl) rfl ?_
    refine J.nil ?_
    refine EJ.thenN (hK7 ?_)
    refine CJ.condD rfl (fun h10 => ?_) (fun h10 => ?_)
    ·
      refine CJ.seq fun _ hK8 _ => ?_
      refine CJ.region ?_
      refine J.p (PR.move rfl) rfl ?_
      refine J.p (PR.idxA1 u86 sz5 rfl rfl rfl (by omega)) rfl ?_
      refine J.p (PR.load rfl At.z (by first | exact bytesC_get (by simp [*]; omega) | exact intsC_get (by simp [*]; omega)) pl5) rfl ?_
      refine J.p (PR.neq rfl rfl) rfl ?_
      refine J.nil ?_
      refine EJ.thenN (hK8 ?_)
      refine CJ.condD rfl (fun h18 => ?_) (fun h18 => ?_)
      ·
        refine CJ.seq fun _ hK9 _ => ?_
        refine CJ.region ?_
        refine J.p (PR.assign rfl) rfl ?_
        refine J.nil ?_
        refine EJ.thenN (hK9 ?_)
        refine CJ.ret ?_
        refine EJ.inR ?_
        refine EJ.inR ?_
        refine EJ.thenR ?_
        refine EJ.thenR ?_
        refine EJ.inR ?_
        refine EJ.thenR ?_
        refine EJ.ret1 rfl (Res.tmp rfl) fun w hH => ?_
        replace hH := hH.tail
        exact ⟨rb (isMono_false (k := k) (by omega) (by rw [most_ge h10]; have := (hm.bd k).1; omega)).symm, hH⟩
      ·
        refine CJ.skip ?_
        refine EJ.inN ?_
        refine EJ.inN ?_
        refine EJ.thenN (hK6 ?_)
        refine CJ.region ?_
        refine J.p (PR.move rfl) rfl ?_
        refine J.p (PR.add rfl rfl (by first | exact nw _ (by omega) | rfl)) rfl ?_
        refine J.p (PR.assign rfl) rfl ?_
        refine J.nil ?_
        refine EJ.thenN ?_
        exact hAg0 (k + 1) ⟨by omega, upto hI.2 (by rw [most_ge h10]; omega)⟩ (by omega) 15 rfl rfl ⟨rfl, trivial⟩ rfl rfl
    ·
      refine CJ.seq fun _ hK10 _ => ?_
      refine CJ.region ?_
      refine J.p (PR.move rfl) rfl ?_
      refine J.p (PR.idxA1 u86 sz5 rfl rfl rfl (by omega)) rfl ?_
      refine J.p (PR.load rfl At.z (by first | exact bytesC_get (by simp [*]; omega) | exact intsC_get (by simp [*]; omega)) pl5) rfl ?_
      refine J.p (PR.gtr rfl rfl) rfl ?_
      refine J.p (PR.move rfl) rfl ?_
      refine J.splitB (jd := 24) rfl (fun h24 => ?_) (fun h24 => ?_)
      ·
        try have h24p := of_decide_eq_true h24
        refine J.gn rfl rfl rfl h24 ?_
        refine J.gn rfl rfl rfl h24 ?_
        refine J.gn rfl rfl rfl h24 ?_
        refine J.gn rfl rfl rfl h24 ?_
        refine J.gn rfl rfl rfl h24 ?_
        refine J.gn rfl rfl rfl h24 ?_
        refine J.gn rfl rfl rfl h24 ?_
        refine J.gu rfl rfl rfl ?_
        refine J.gu rfl rfl rfl ?_
        refine J.gu rfl rfl rfl ?_
        refine J.gu rfl rfl rfl ?_
        refine J.gn rfl rfl rfl h24 ?_
        refine J.p (PR.pickT rfl h24 rfl) rfl ?_
        refine J.p (PR.assign rfl) rfl ?_
        refine J.nil ?_
        refine EJ.thenN (hK10 ?_)
        refine CJ.condT rfl ?_
        refine CJ.seq fun _ hK11 _ => ?_
        refine CJ.region ?_
        refine J.p (PR.assign rfl) rfl ?_
        refine J.nil ?_
        refine EJ.thenN (hK11 ?_)
        refine CJ.ret ?_
        refine EJ.inR ?_
        refine EJ.inR ?_
        refine EJ.thenR ?_
        refine EJ.thenR ?_
        refine EJ.inR ?_
        refine EJ.thenR ?_
        refine EJ.ret1 rfl (Res.tmp rfl) fun w hH => ?_
        replace hH := hH.tail
        exact ⟨rb (isMono_false (k := k) (by omega) (by have : most ds k ≤ 20 := (by unfold most; split <;> (try split) <;> omega); omega)).symm, hH⟩
      ·
        try have h24p := of_decide_eq_false h24
        refine J.gy (PR.move rfl) rfl rfl rfl h24 ?_
        refine J.gy (PR.move rfl) rfl rfl rfl h24 ?_
        refine J.gy (PR.idx1 u22 sz2 rfl rfl rfl (by omega) hds.sm) rfl rfl rfl h24 ?_
        refine J.gy (PR.loadH rfl (hds _ (by omega)) pl2) rfl rfl rfl h24 ?_
        refine J.gy (PR.rem rfl rfl (by decide) rfl) rfl rfl rfl h24 ?_
        refine J.gy (PR.neq rfl rfl) rfl rfl rfl h24 ?_
        refine J.gy (PR.move rfl) rfl rfl rfl h24 ?_
        refine J.splitB (jd := 31) rfl (fun h31 => ?_) (fun h31 => ?_)
        ·
          try have h31p := of_decide_eq_true h31
          refine J.gy (PR.move rfl) rfl rfl rfl h31 ?_
          refine J.gy (PR.idxA1 u86 sz5 rfl rfl rfl (by omega)) rfl rfl rfl h31 ?_
          refine J.gy (PR.load rfl At.z (by first | exact bytesC_get (by simp [*]; omega) | exact intsC_get (by simp [*]; omega)) pl5) rfl rfl rfl h31 ?_
          refine J.gy (PR.gtr rfl rfl) rfl rfl rfl h31 ?_
          refine J.gy (PR.pickT rfl h31 rfl) rfl rfl rfl h24 ?_
          refine J.p (PR.pickF rfl h24 rfl) rfl ?_
          refine J.p (PR.assign rfl) rfl ?_
          refine J.nil ?_
          refine EJ.thenN (hK10 ?_)
          refine CJ.condD rfl (fun h19 => ?_) (fun h19 => ?_)
          ·
            refine CJ.seq fun _ hK12 _ => ?_
            refine CJ.region ?_
            refine J.p (PR.assign rfl) rfl ?_
            refine J.nil ?_
            refine EJ.thenN (hK12 ?_)
            refine CJ.ret ?_
            refine EJ.inR ?_
            refine EJ.inR ?_
            refine EJ.thenR ?_
            refine EJ.thenR ?_
            refine EJ.inR ?_
            refine EJ.thenR ?_
            refine EJ.ret1 rfl (Res.tmp rfl) fun w hH => ?_
            replace hH := hH.tail
            exact ⟨rb (isMono_false (k := k) (by omega) (by rw [most_odd h10 h31p (hp k (by omega))]; omega)).symm, hH⟩
          ·
            refine CJ.skip ?_
            refine EJ.inN ?_
            refine EJ.inN ?_
            refine EJ.thenN (hK6 ?_)
            refine CJ.region ?_
            refine J.p (PR.move rfl) rfl ?_
            refine J.p (PR.add rfl rfl (by first | exact nw _ (by omega) | rfl)) rfl ?_
            refine J.p (PR.assign rfl) rfl ?_
            refine J.nil ?_
            refine EJ.thenN ?_
            exact hAg0 (k + 1) ⟨by omega, upto hI.2 (by rw [most_odd h10 h31p (hp k (by omega))]; omega)⟩ (by omega) 30 rfl rfl ⟨rfl, trivial⟩ rfl rfl
        ·
          try have h31p := of_decide_eq_false h31
          refine J.gn rfl rfl rfl h31 ?_
          refine J.gn rfl rfl rfl h31 ?_
          refine J.gn rfl rfl rfl h31 ?_
          refine J.gn rfl rfl rfl h31 ?_
          refine J.gy (PR.pickF rfl h31 rfl) rfl rfl rfl h24 ?_
          refine J.p (PR.pickF rfl h24 rfl) rfl ?_
          refine J.p (PR.assign rfl) rfl ?_
          refine J.nil ?_
          refine EJ.thenN (hK10 ?_)
          refine CJ.condF rfl ?_
          refine CJ.skip ?_
          refine EJ.inN ?_
          refine EJ.inN ?_
          refine EJ.thenN (hK6 ?_)
          refine CJ.region ?_
          refine J.p (PR.move rfl) rfl ?_
          refine J.p (PR.add rfl rfl (by first | exact nw _ (by omega) | rfl)) rfl ?_
          refine J.p (PR.assign rfl) rfl ?_
          refine J.nil ?_
          refine EJ.thenN ?_
          exact hAg0 (k + 1) ⟨by omega, upto hI.2 (by rw [most_even h10 h31p]; omega)⟩ (by omega) 30 rfl rfl ⟨rfl, trivial⟩ rfl rfl
  ·
    refine CJ.exit ?_
    refine EJ.thenE ?_
    refine EJ.thenE ?_
    refine EJ.inE ?_
    refine EJ.thenN (hK2 ?_)
    refine CJ.seq fun _ hK13 _ => ?_
    refine CJ.region ?_
    refine J.p (PR.assign rfl) rfl ?_
    refine J.nil ?_
    refine EJ.thenN (hK13 ?_)
    refine CJ.ret ?_
    refine EJ.ret1 rfl (Res.tmp rfl) fun w hH => ?_
    replace hH := hH.tail
    exact ⟨rb (isMono_true (fun j hj => hI.2 j (by omega))).symm, hH⟩
end Go.Proofs.Ytpojpokldncglaa.G
namespace Go.Proofs.Ytpojpokldncglaa.G
open Go Go.RowKit
namespace Wb
theorem u2 : Try.prog.underlying 2 = some (TypeDesc.int .i64) := by kernel_rfl
theorem u22 : Try.prog.underlying 22 = some (TypeDesc.slice 2) := by kernel_rfl
theorem u5 : Try.prog.underlying 5 = some (TypeDesc.int .u8) := by kernel_rfl
theorem u85 : Try.prog.underlying 85 = some (TypeDesc.array 8 5) := by kernel_rfl
theorem u86 : Try.prog.underlying 86 = some (TypeDesc.array 8 5) := by kernel_rfl
theorem sz2 : Size Try.prog 2 1 := by unfold Size; kernel_rfl
theorem sz5 : Size Try.prog 5 1 := by unfold Size; kernel_rfl
theorem sz86 : Size Try.prog 86 8 := by unfold Size; kernel_rfl
theorem by2 : Bytes Try.prog 2 8 := by unfold Bytes; kernel_rfl
theorem ze2 : Zero Try.prog 2 [.int .i64 0] := by unfold Zero; kernel_rfl
theorem ze86 : Zero Try.prog 86 [.int .u8 0, .int .u8 0, .int .u8 0, .int .u8 0, .int .u8 0, .int .u8 0, .int .u8 0, .int .u8 0] := by unfold Zero; kernel_rfl
theorem pl2 : Plain Try.prog 2 := ⟨_, u2, rfl⟩
theorem pl5 : Plain Try.prog 5 := ⟨_, u5, rfl⟩
theorem ag86 : Agg Try.prog 86 8 := ⟨_, u86, rfl, by kernel_rfl⟩
theorem fn137 : Fn Try.prog 137 := ⟨_, Try.func137, by kernel_rfl, rfl⟩
theorem fn138 : Fn Try.prog 138 := ⟨_, Try.func138, by kernel_rfl, rfl⟩
theorem fn173 : Fn Try.prog 173 := ⟨_, Try.func173, by kernel_rfl, rfl⟩
theorem fn86 : Fn Try.prog 86 := ⟨_, Try.func86, by kernel_rfl, rfl⟩
theorem foll0 : Try.prog.follows .mixedOrders = true := by kernel_rfl
end Wb
open Wb
theorem list_eq_of {xs ys : List Int} (hl : (xs.length : Int) = ys.length) (h : ∀ j, j < xs.length → xs.getD j 0 = ys.getD j 0) : xs = ys := by
  apply List.ext_getElem (by omega)
  intro j h1 h2
  have := h j h1
  rwa [List.getD_eq_getElem?_getD, List.getD_eq_getElem?_getD, List.getElem?_eq_getElem h1, List.getElem?_eq_getElem h2] at this
set_option maxRecDepth 10000 in
theorem eqInt64S_c {B : World} {H0 H : HP} {L : List SA} {w : World} {qxs : Option Addr} {cxs : Nat} {xs : List Int} {qys : Option Addr} {cys : Nat} {ys : List Int}  (hxs : Ints H qxs xs) (hys : Ints H qys ys) (hn : xs.length ≤ 1048576) (hH : Hp B H0 H L w) :
    Calls Try.prog 24 [.slice qxs xs.length cxs, .slice qys ys.length cys].toArray w fun e w' => e = .returned (.bool (decide (xs = ys))) ∧ Hp B H0 H L w' := by
  refine CJ.enter Try.func24 rfl 26 rfl rfl [(0, .slice qxs xs.length cxs), (1, .slice qys ys.length cys)] rfl hH ?_
  clear hH
  refine CJ.seq fun _ hK1 _ => ?_
  refine CJ.region ?_
  refine J.p (PR.assign rfl) rfl ?_
  refine J.nil ?_
  refine EJ.thenN (hK1 ?_)
  refine CJ.seq fun _ hK2 _ => ?_
  refine CJ.seq fun _ hK3 _ => ?_
  refine CJ.region ?_
  refine J.p (PR.move rfl) rfl ?_
  refine J.p (PR.lenSlice u22 rfl rfl) rfl ?_
  refine J.p (PR.move rfl) rfl ?_
  refine J.p (PR.lenSlice u22 rfl rfl) rfl ?_
  refine J.p (PR.neq rfl rfl) rfl ?_
  refine J.nil ?_
  refine EJ.thenN (hK3 ?_)
  refine CJ.condD rfl (fun h10 => ?_) (fun h10 => ?_)
  ·
    refine CJ.seq fun _ hK4 _ => ?_
    refine CJ.region ?_
    refine J.p (PR.assign rfl) rfl ?_
    refine J.nil ?_
    refine EJ.thenN (hK4 ?_)
    refine CJ.ret ?_
    refine EJ.thenR ?_
    refine EJ.ret1 rfl (Res.tmp rfl) fun w hH => ?_
    exact ⟨rb (decide_eq_false (fun e => h10 (by rw [e]))).symm, hH⟩
  ·
    refine CJ.skip ?_
    refine EJ.thenN (hK2 ?_)
    refine CJ.seq fun _ hK5 _ => ?_
    refine CJ.seq fun _ hK6 _ => ?_
    refine CJ.region ?_
    refine J.p (PR.assign rfl) rfl ?_
    refine J.nil ?_
    refine EJ.thenN (hK6 ?_)
    refine CJ.block ?_
    refine CJ.loopU (σ := Nat) (fun (k : Nat) => [(5, .int .i64 (k : Int))]) (fun (k : Nat) => H) (fun (k : Nat) => L) (fun (k : Nat) => k ≤ xs.length ∧ ∀ j, j < k → xs.getD j 0 = ys.getD j 0) (fun (k : Nat) => xs.length - k) 0 ⟨by omega, fun j hj => by omega⟩ ⟨rfl, trivial⟩ rfl rfl ?_
    rintro k hI _ hAg0
    have hk := hI.1
    refine CJ.seq fun _ hK7 _ => ?_
    refine CJ.seq fun _ hK8 _ => ?_
    refine CJ.region ?_
    refine J.p (PR.move rfl) rfl ?_
    refine J.p (PR.move rfl) rfl ?_
    refine J.p (PR.lenSlice u22 rfl rfl) rfl ?_
    refine J.p (PR.lss rfl rfl) rfl ?_
    refine J.nil ?_
    refine EJ.thenN (hK8 ?_)
    refine CJ.condD rfl (fun hc14 => ?_) (fun hc14 => ?_)
    ·
      refine CJ.skip ?_
      refine EJ.thenN (hK7 ?_)
      refine CJ.seq fun _ hK9 _ => ?_
      refine CJ.block ?_
      refine CJ.seq fun _ hK10 _ => ?_
      refine CJ.regionD foll0 (by kernel_rfl) ?_
      refine JS.op (PR.move rfl) rfl ?_
      refine JS.op (PR.move rfl) rfl ?_
      refine JS.op (PR.idx1 u22 sz2 rfl rfl rfl (by omega) hxs.sm) rfl ?_
      refine JS.op (PR.loadH rfl (hxs _ (by omega)) pl2) rfl ?_
      refine JS.op (PR.move rfl) rfl ?_
      refine JS.op (PR.move rfl) rfl ?_
      refine JS.op (PR.idx1 u22 sz2 rfl rfl rfl (by omega) hys.sm) rfl ?_
      refine JS.op (PR.loadH rfl (hys _ (by omega)) pl2) rfl ?_
      refine JS.op (PR.neq rfl rfl) rfl ?_
      refine JS.nil ?_
      refine EJ.thenN (hK10 ?_)
      refine CJ.condD rfl (fun h25 => ?_) (fun h25 => ?_)
      ·
        refine CJ.seq fun _ hK11 _ => ?_
        refine CJ.region ?_
        refine J.p (PR.assign rfl) rfl ?_
        refine J.nil ?_
        refine EJ.thenN (hK11 ?_)
        refine CJ.ret ?_
        refine EJ.inR ?_
        refine EJ.thenR ?_
        refine EJ.thenR ?_
        refine EJ.inR ?_
        refine EJ.thenR ?_
        refine EJ.ret1 rfl (Res.tmp rfl) fun w hH => ?_
        exact ⟨rb (decide_eq_false (fun e => h25 (by rw [e]))).symm, hH⟩
      ·
        refine CJ.skip ?_
        refine EJ.inN ?_
        refine EJ.thenN (hK9 ?_)
        refine CJ.region ?_
        refine J.p (PR.move rfl) rfl ?_
        refine J.p (PR.add rfl rfl (by first | exact nw _ (by omega) | rfl)) rfl ?_
        refine J.p (PR.assign rfl) rfl ?_
        refine J.nil ?_
        refine EJ.thenN ?_
        exact hAg0 (k + 1) ⟨by omega, upto hI.2 (by omega)⟩ (by omega) 17 rfl rfl ⟨rfl, trivial⟩ rfl rfl
    ·
      refine CJ.exit ?_
      refine EJ.thenE ?_
      refine EJ.thenE ?_
      refine EJ.inE ?_
      refine EJ.thenN (hK5 ?_)
      refine CJ.seq fun _ hK12 _ => ?_
      refine CJ.region ?_
      refine J.p (PR.assign rfl) rfl ?_
      refine J.nil ?_
      refine EJ.thenN (hK12 ?_)
      refine CJ.ret ?_
      refine EJ.ret1 rfl (Res.tmp rfl) fun w hH => ?_
      exact ⟨rb (decide_eq_true (list_eq_of (by omega) (fun j hj => hI.2 j (by omega)))).symm, hH⟩
set_option maxRecDepth 10000 in
theorem toInt64S_c {B : World} {H0 H : HP} {L : List SA} {w : World} {qxs : Option Addr} {cxs : Nat} {xs : List Int}  (hxs : Ints H qxs xs) (hn : xs.length ≤ 1048576) (hH : Hp B H0 H L w) :
    Calls Try.prog 20 [.slice qxs xs.length cxs].toArray w fun e w' => ∃ q c, e = .returned (.slice q xs.length c) ∧ Hp B H0 H (own 2 1 q xs.length c (intsC xs) :: L) w' := by
  refine CJ.enter Try.func20 rfl 22 rfl rfl [(0, .slice qxs xs.length cxs)] rfl hH ?_
  clear hH
  refine CJ.seq fun _ hK1 _ => ?_
  refine CJ.region ?_
  refine J.p (PR.assign rfl) rfl ?_
  refine J.nil ?_
  refine EJ.thenN (hK1 ?_)
  refine CJ.seq fun _ hK2 _ => ?_
  refine CJ.region ?_
  refine J.p (PR.move rfl) rfl ?_
  refine J.p (PR.lenSlice u22 rfl rfl) rfl ?_
  refine J.makeI u22 ze2 sz2 by2 rfl rfl rfl rfl (by omega) rfl fun g7 => ?_
  refine J.p (PR.assign rfl) rfl ?_
  refine J.nil ?_
  refine EJ.thenN (hK2 ?_)
  refine CJ.seq fun _ hK3 _ => ?_
  refine CJ.seq fun _ hK4 _ => ?_
  refine CJ.region ?_
  refine J.p (PR.assign rfl) rfl ?_
  refine J.nil ?_
  refine EJ.thenN (hK4 ?_)
  refine CJ.block ?_
  refine CJ.loopU (σ := Nat) (fun (k : Nat) => [(4, .int .i64 (k : Int))]) (fun (k : Nat) => H) (fun (k : Nat) => obj g7 (.cells (intsC (xs.take k ++ List.replicate (xs.length - k) 0)).toArray 2 (0, 0)) :: L) (fun (k : Nat) => k ≤ xs.length) (fun (k : Nat) => xs.length - k) 0 (by omega) ⟨rfl, trivial⟩ rfl rfl ?_
  rintro k hI _ hAg0
  refine CJ.seq fun _ hK5 _ => ?_
  refine CJ.seq fun _ hK6 _ => ?_
  refine CJ.region ?_
  refine J.p (PR.move rfl) rfl ?_
  refine J.p (PR.move rfl) rfl ?_
  refine J.p (PR.lenSlice u22 rfl rfl) rfl ?_
  refine J.p (PR.lss rfl rfl) rfl ?_
  refine J.nil ?_
  refine EJ.thenN (hK6 ?_)
  refine CJ.condD rfl (fun hc11 => ?_) (fun hc11 => ?_)
  ·
    refine CJ.skip ?_
    refine EJ.thenN (hK5 ?_)
    refine CJ.seq fun _ hK7 _ => ?_
    refine CJ.block ?_
    refine CJ.region ?_
    refine J.p (PR.move rfl) rfl ?_
    refine J.p (PR.move rfl) rfl ?_
    refine J.p (PR.move rfl) rfl ?_
    refine J.p (PR.move rfl) rfl ?_
    refine J.p (PR.idx1 u22 sz2 rfl rfl rfl (by omega) hxs.sm) rfl ?_
    refine J.p (PR.loadH rfl (hxs _ (by omega)) pl2) rfl ?_
    refine J.p (PR.idxO1 u22 sz2 rfl rfl rfl (by omega)) rfl ?_
    refine J.storeI rfl rfl sz2 (by simp; omega) At.z ?_
    refine J.nil ?_
    refine EJ.inN ?_
    refine EJ.thenN (hK7 ?_)
    refine CJ.region ?_
    refine J.p (PR.move rfl) rfl ?_
    refine J.p (PR.add rfl rfl (by first | exact nw _ (by omega) | rfl)) rfl ?_
    refine J.p (PR.assign rfl) rfl ?_
    refine J.nil ?_
    refine EJ.thenN ?_
    exact hAg0 (k + 1) (by omega) (by omega) 15 rfl rfl ⟨rfl, trivial⟩ rfl (by rw [← fill_step (by omega)])
  ·
    refine CJ.exit ?_
    refine EJ.thenE ?_
    refine EJ.thenE ?_
    refine EJ.inE ?_
    refine EJ.thenN (hK3 ?_)
    refine CJ.seq fun _ hK8 _ => ?_
    refine CJ.region ?_
    refine J.p (PR.move rfl) rfl ?_
    refine J.p (PR.assign rfl) rfl ?_
    refine J.nil ?_
    refine EJ.thenN (hK8 ?_)
    refine CJ.ret ?_
    refine EJ.ret1 rfl (Res.tmp rfl) fun w hH => ?_
    obtain rfl : k = xs.length := by omega
    rw [fill_end] at hH
    exact ⟨_, _, rfl, own_full _ 1 hH (by simp) (by simp only [maxLen]; omega)⟩
set_option maxRecDepth 10000 in
theorem toMonomial_c {B : World} {H0 H : HP} {L : List SA} {w : World} {m : List Int}  (hm : Mono m) (hH : Hp B H0 H L w) :
    Calls Try.prog 168 [.agg (bytesC m).toArray].toArray w fun e w' => e = .returned (.agg (bytesC m).toArray) ∧ Hp B H0 H L w' := by
  refine CJ.enter Try.func168 rfl 15 rfl rfl [(0, .agg (bytesC m).toArray)] rfl hH ?_
  have hml := hm.len
  clear hH
  refine CJ.seq fun _ hK1 _ => ?_
  refine CJ.region ?_
  refine J.box rfl rfl rfl fun g1 => ?_
  refine J.alloc ze86 rfl fun g2 => ?_
  refine J.nil ?_
  refine EJ.thenN (hK1 ?_)
  refine CJ.seq fun _ hK2 _ => ?_
  refine CJ.region ?_
  refine J.alloc ze86 rfl fun g3 => ?_
  refine J.nil ?_
  refine EJ.thenN (hK2 ?_)
  refine CJ.seq fun _ hK3 _ => ?_
  refine CJ.seq fun _ hK4 _ => ?_
  refine CJ.region ?_
  refine J.p (PR.assign rfl) rfl ?_
  refine J.nil ?_
  refine EJ.thenN (hK4 ?_)
  refine CJ.block ?_
  refine CJ.loopU (σ := Nat) (fun (k : Nat) => [(4, .int .i64 (k : Int))]) (fun (k : Nat) => H) (fun (k : Nat) => obj g3 (.cells (bytesC (m.take k ++ List.replicate (m.length - k) 0)).toArray 86 (0, 0)) :: obj g2 (.cells (bytesC (List.replicate 8 0)).toArray 86 (0, 0)) :: obj g1 (.cells (bytesC m).toArray 85 (0, 0)) :: L) (fun (k : Nat) => k ≤ 8) (fun (k : Nat) => 8 - k) 0 (by omega) ⟨rfl, trivial⟩ rfl (by rw [hml]; rfl) ?_
  rintro k hI _ hAg0
  refine CJ.seq fun _ hK5 _ => ?_
  refine CJ.seq fun _ hK6 _ => ?_
  refine CJ.region ?_
  refine J.p (PR.move rfl) rfl ?_
  refine J.p (PR.lss rfl rfl) rfl ?_
  refine J.nil ?_
  refine EJ.thenN (hK6 ?_)
  refine CJ.condD rfl (fun hc6 => ?_) (fun hc6 => ?_)
  ·
    refine CJ.skip ?_
    refine EJ.thenN (hK5 ?_)
    refine CJ.seq fun _ hK7 _ => ?_
    refine CJ.block ?_
    refine CJ.region ?_
    refine J.p (PR.move rfl) rfl ?_
    refine J.p (PR.move rfl) rfl ?_
    refine J.p (PR.idxA1 u85 sz5 rfl rfl rfl (by omega)) rfl ?_
    refine J.p (PR.load rfl (.s (.s .z)) (bytesC_get (by omega)) pl5) rfl ?_
    refine J.p (PR.idxA1 u86 sz5 rfl rfl rfl (by omega)) rfl ?_
    refine J.storeB rfl rfl sz5 (by simp; omega) At.z ?_
    refine J.nil ?_
    refine EJ.inN ?_
    refine EJ.thenN (hK7 ?_)
    refine CJ.region ?_
    refine J.p (PR.move rfl) rfl ?_
    refine J.p (PR.add rfl rfl (by first | exact nw _ (by omega) | rfl)) rfl ?_
    refine J.p (PR.assign rfl) rfl ?_
    refine J.nil ?_
    refine EJ.thenN ?_
    exact hAg0 (k + 1) (by omega) (by omega) 11 rfl rfl ⟨rfl, trivial⟩ rfl (by rw [← fill_step (by omega)])
  ·
    refine CJ.exit ?_
    refine EJ.thenE ?_
    refine EJ.thenE ?_
    refine EJ.inE ?_
    refine EJ.thenN (hK3 ?_)
    refine CJ.seq fun _ hK8 _ => ?_
    refine CJ.region ?_
    refine J.p (PR.loadAll rfl At.z (by simpa [*] using ag86)) rfl ?_
    refine J.storeAll rfl rfl (by first | exact bytesC_one _ | exact intsC_one _ | exact Term.c_one _ | simp [Value.oneCell']) (by simpa [*] using sz86) (by simp [*]) (.s .z) ?_
    refine J.nil ?_
    refine EJ.thenN (hK8 ?_)
    refine CJ.ret ?_
    refine EJ.ret1 rfl (Res.agg rfl (.s .z) (by simpa [*] using ag86)) fun w hH => ?_
    replace hH := hH.tail
    replace hH := hH.tail
    replace hH := hH.tail
    obtain rfl : k = m.length := by omega
    exact ⟨by rw [fill_end], hH⟩
def idxOf (xs : List Int) (p : Int → Bool) : Int := if xs.any p then (xs.findIdx p : Int) else -1
theorem idxOf_hit {xs : List Int} {p : Int → Bool} {k : Nat} (hk : k < xs.length) (h : ∀ j, j < k → p (xs.getD j 0) = false) (hp : p (xs.getD k 0) = true) : idxOf xs p = k := by
  have hg : ∀ j, (hj : j < xs.length) → xs[j] = xs.getD j 0 := fun j hj => by rw [List.getD_eq_getElem?_getD, List.getElem?_eq_getElem hj]; rfl
  unfold idxOf
  have ha : xs.any p = true := List.any_eq_true.2 ⟨xs[k], List.getElem_mem hk, by rw [hg]; exact hp⟩
  rw [if_pos ha]
  have : xs.findIdx p = k := by
    rw [List.findIdx_eq hk]
    exact ⟨by rw [hg]; exact hp, fun j hj => by rw [hg]; exact h j hj⟩
  rw [this]
theorem idxOf_miss {xs : List Int} {p : Int → Bool} (h : ∀ j, j < xs.length → p (xs.getD j 0) = false) : idxOf xs p = -1 := by
  unfold idxOf
  rw [if_neg]
  intro ha
  obtain ⟨x, hx, hp⟩ := List.any_eq_true.1 ha
  obtain ⟨j, hj, rfl⟩ := List.mem_iff_getElem.1 hx
  have := h j hj
  rw [List.getD_eq_getElem?_getD, List.getElem?_eq_getElem hj] at this
  rw [show (some xs[j]).getD 0 = xs[j] from rfl, hp] at this
  cases this
theorem idxOf_ge (xs : List Int) (p : Int → Bool) : decide (0 ≤ idxOf xs p) = xs.any p := by
  unfold idxOf
  by_cases h : xs.any p = true
  · rw [if_pos h, h]; exact decide_eq_true (by omega)
  · rw [if_neg h]
    have : xs.any p = false := by simpa using h
    rw [this]
    rfl
theorem isDeg_any {ds : List Int} (h : (ds.length : Int) ≤ 8) : (!(ds.any fun x => !(decide (1 ≤ x) && decide (x ≤ 12)))) = isDeg ds := by
  unfold isDeg
  rw [decide_eq_true (by omega), Bool.true_and, List.all_eq_not_any_not]
set_option maxRecDepth 10000 in
theorem IndexFuncI_c {B : World} {H0 H : HP} {L : List SA} {w : World} {qxs : Option Addr} {cxs : Nat} {xs : List Int} {gp : Nat} {capp : Array Value} {p : Int → Bool}  (hxs : Ints H qxs xs) (hgp : Fn Try.prog gp) (hp : ∀ (x : Int) (w : World), Hp B H0 H L w → Calls Try.prog gp (#[] ++ [.int .i64 x].toArray ++ capp) w fun e w' => e = .returned (.bool (p x)) ∧ Hp B H0 H L w') (hn : xs.length ≤ 1048576) (hH : Hp B H0 H L w) :
    Calls Try.prog 173 [.slice qxs xs.length cxs, .func (.func gp) #[] capp].toArray w fun e w' => e = .returned (.int .i64 (idxOf xs p)) ∧ Hp B H0 H L w' := by
  refine CJ.enter Try.func173 rfl 19 rfl rfl [(0, .slice qxs xs.length cxs), (1, .func (.func gp) #[] capp)] rfl hH ?_
  clear hH
  refine CJ.seq fun _ hK1 _ => ?_
  refine CJ.region ?_
  refine J.p (PR.assign rfl) rfl ?_
  refine J.nil ?_
  refine EJ.thenN (hK1 ?_)
  refine CJ.seq fun _ hK2 _ => ?_
  refine CJ.seq fun _ hK3 _ => ?_
  refine CJ.region ?_
  refine J.p (PR.move rfl) rfl ?_
  refine J.p (PR.lenSlice u22 rfl rfl) rfl ?_
  refine J.p (PR.move rfl) rfl ?_
  refine J.nil ?_
  refine EJ.thenN (hK3 ?_)
  refine CJ.block ?_
  refine CJ.loopU (σ := Nat) (fun (k : Nat) => [(8, .int .i64 (k : Int))]) (fun (k : Nat) => H) (fun (k : Nat) => L) (fun (k : Nat) => k ≤ xs.length ∧ ∀ j, j < k → p (xs.getD j 0) = false) (fun (k : Nat) => xs.length - k) 0 ⟨by omega, fun j hj => by omega⟩ ⟨rfl, trivial⟩ rfl rfl ?_
  rintro k hI _ hAg0
  have hk := hI.1
  refine CJ.seq fun _ hK4 _ => ?_
  refine CJ.region ?_
  refine J.p (PR.lss rfl rfl) rfl ?_
  refine J.nil ?_
  refine EJ.thenN (hK4 ?_)
  refine CJ.seq fun _ hK5 _ => ?_
  refine CJ.condD rfl (fun hc9 => ?_) (fun hc9 => ?_)
  ·
    refine CJ.skip ?_
    refine EJ.thenN (hK5 ?_)
    refine CJ.seq fun _ hK6 _ => ?_
    refine CJ.block ?_
    refine CJ.seq fun _ hK7 _ => ?_
    refine CJ.region ?_
    refine J.p (PR.move rfl) rfl ?_
    refine J.p (PR.assign rfl) rfl ?_
    refine J.nil ?_
    refine EJ.thenN (hK7 ?_)
    refine CJ.seq fun _ hK8 _ => ?_
    refine CJ.region ?_
    refine J.p (PR.move rfl) rfl ?_
    refine J.p (PR.move rfl) rfl ?_
    refine J.p (PR.move rfl) rfl ?_
    refine J.p (PR.idx1 u22 sz2 rfl rfl rfl (by omega) hxs.sm) rfl ?_
    refine J.p (PR.loadH rfl (hxs _ (by omega)) pl2) rfl ?_
    refine J.callV hgp rfl rfl rfl fun w hH => (hp _ w hH).mono ?_
    rintro _ w ⟨rfl, hH⟩
    refine ⟨_, rfl, fun a hF => J.of hF hH ?_⟩
    refine J.nil ?_
    refine EJ.thenN (hK8 ?_)
    refine CJ.cond rfl (fun h16 => ?_) (fun h16 => ?_)
    ·
      refine CJ.seq fun _ hK9 _ => ?_
      refine CJ.region ?_
      refine J.p (PR.move rfl) rfl ?_
      refine J.p (PR.assign rfl) rfl ?_
      refine J.nil ?_
      refine EJ.thenN (hK9 ?_)
      refine CJ.ret ?_
      refine EJ.inR ?_
      refine EJ.thenR ?_
      refine EJ.thenR ?_
      refine EJ.inR ?_
      refine EJ.thenR ?_
      refine EJ.ret1 rfl (Res.tmp rfl) fun w hH => ?_
      exact ⟨ri (idxOf_hit (by omega) hI.2 h16).symm, hH⟩
    ·
      refine CJ.skip ?_
      refine EJ.inN ?_
      refine EJ.thenN (hK6 ?_)
      refine CJ.region ?_
      refine J.p (PR.add rfl rfl (by first | exact nw _ (by omega) | rfl)) rfl ?_
      refine J.p (PR.move rfl) rfl ?_
      refine J.nil ?_
      refine EJ.thenN ?_
      exact hAg0 (k + 1) ⟨by omega, upto hI.2 h16⟩ (by omega) 12 rfl rfl ⟨rfl, trivial⟩ rfl rfl
  ·
    refine CJ.exit ?_
    refine EJ.thenE ?_
    refine EJ.thenE ?_
    refine EJ.inE ?_
    refine EJ.thenN (hK2 ?_)
    refine CJ.seq fun _ hK10 _ => ?_
    refine CJ.region ?_
    refine J.p (PR.assign rfl) rfl ?_
    refine J.nil ?_
    refine EJ.thenN (hK10 ?_)
    refine CJ.ret ?_
    refine EJ.ret1 rfl (Res.tmp rfl) fun w hH => ?_
    exact ⟨ri (idxOf_miss (fun j hj => hI.2 j (by omega))).symm, hH⟩
set_option maxRecDepth 10000 in
theorem ContainsFuncI_c {B : World} {H0 H : HP} {L : List SA} {w : World} {qxs : Option Addr} {cxs : Nat} {xs : List Int} {gp : Nat} {capp : Array Value} {p : Int → Bool}  (hxs : Ints H qxs xs) (hgp : Fn Try.prog gp) (hp : ∀ (x : Int) (w : World), Hp B H0 H L w → Calls Try.prog gp (#[] ++ [.int .i64 x].toArray ++ capp) w fun e w' => e = .returned (.bool (p x)) ∧ Hp B H0 H L w') (hn : xs.length ≤ 1048576) (hH : Hp B H0 H L w) :
    Calls Try.prog 137 [.slice qxs xs.length cxs, .func (.func gp) #[] capp].toArray w fun e w' => e = .returned (.bool (xs.any p)) ∧ Hp B H0 H L w' := by
  refine CJ.enter Try.func137 rfl 9 rfl rfl [(0, .slice qxs xs.length cxs), (1, .func (.func gp) #[] capp)] rfl hH ?_
  clear hH
  refine CJ.seq fun _ hK1 _ => ?_
  refine CJ.region ?_
  refine J.p (PR.assign rfl) rfl ?_
  refine J.nil ?_
  refine EJ.thenN (hK1 ?_)
  refine CJ.seq fun _ hK2 _ => ?_
  refine CJ.region ?_
  refine J.p (PR.move rfl) rfl ?_
  refine J.p (PR.move rfl) rfl ?_
  refine J.call fn173 rfl rfl fun w hH => (IndexFuncI_c hxs hgp hp (by omega) hH).mono ?_
  rintro _ w ⟨rfl, hH⟩
  refine ⟨_, rfl, fun a hF => J.of hF hH ?_⟩
  refine J.p (PR.geq rfl rfl) rfl ?_
  refine J.p (PR.assign rfl) rfl ?_
  refine J.nil ?_
  refine EJ.thenN (hK2 ?_)
  refine CJ.ret ?_
  refine EJ.ret1 rfl (Res.tmp rfl) fun w hH => ?_
  exact ⟨rb (idxOf_ge xs p), hH⟩
set_option maxRecDepth 10000 in
theorem AreDegrees1_c {B : World} {H0 H : HP} {L : List SA} {w : World} {x : Int}   (hH : Hp B H0 H L w) :
    Calls Try.prog 138 [.int .i64 x].toArray w fun e w' => e = .returned (.bool (!(decide (1 ≤ x) && decide (x ≤ 12)))) ∧ Hp B H0 H L w' := by
  refine CJ.enter Try.func138 rfl 6 rfl rfl [(0, .int .i64 x)] rfl hH ?_
  clear hH
  refine CJ.seq fun _ hK1 _ => ?_
  refine CJ.region ?_
  refine J.p (PR.assign rfl) rfl ?_
  refine J.nil ?_
  refine EJ.thenN (hK1 ?_)
  refine CJ.seq fun _ hK2 _ => ?_
  refine CJ.region ?_
  refine J.p (PR.move rfl) rfl ?_
  refine J.call fn86 rfl rfl fun w hH => (within_c  hH).mono ?_
  rintro _ w ⟨rfl, hH⟩
  refine ⟨_, rfl, fun a hF => J.of hF hH ?_⟩
  refine J.p (PR.not rfl) rfl ?_
  refine J.p (PR.assign rfl) rfl ?_
  refine J.nil ?_
  refine EJ.thenN (hK2 ?_)
  refine CJ.ret ?_
  refine EJ.ret1 rfl (Res.tmp rfl) fun w hH => ?_
  exact ⟨rfl, hH⟩
set_option maxRecDepth 10000 in
theorem AreDegrees_c {B : World} {H0 H : HP} {L : List SA} {w : World} {qds : Option Addr} {cds : Nat} {ds : List Int}  (hds : Ints H qds ds) (hn : ds.length ≤ 1048576) (hH : Hp B H0 H L w) :
    Calls Try.prog 90 [.slice qds ds.length cds].toArray w fun e w' => e = .returned (.bool (isDeg ds)) ∧ Hp B H0 H L w' := by
  refine CJ.enter Try.func90 rfl 11 rfl rfl [(0, .slice qds ds.length cds)] rfl hH ?_
  clear hH
  refine CJ.seq fun _ hK1 _ => ?_
  refine CJ.region ?_
  refine J.p (PR.assign rfl) rfl ?_
  refine J.nil ?_
  refine EJ.thenN (hK1 ?_)
  refine CJ.seq fun _ hK2 _ => ?_
  refine CJ.region ?_
  refine J.p (PR.move rfl) rfl ?_
  refine J.p (PR.lenSlice u22 rfl rfl) rfl ?_
  refine J.p (PR.leq rfl rfl) rfl ?_
  refine J.p (PR.move rfl) rfl ?_
  refine J.splitB (jd := 6) rfl (fun hg6 => ?_) (fun hg6 => ?_)
  ·
    try have hg6p := of_decide_eq_true hg6
    refine J.gy (PR.move rfl) rfl rfl rfl hg6 ?_
    refine J.gcall fn137 rfl rfl hg6 rfl rfl fun w hH => (ContainsFuncI_c hds fn138 (fun x w hH => by simpa only [Array.append_empty, Array.empty_append] using AreDegrees1_c hH) (by omega) hH).mono ?_
    rintro _ w ⟨rfl, hH⟩
    refine ⟨_, rfl, fun a hF => J.of hF hH ?_⟩
    refine J.gy (PR.not rfl) rfl rfl rfl hg6 ?_
    refine J.p (PR.pickT rfl hg6 rfl) rfl ?_
    refine J.p (PR.assign rfl) rfl ?_
    refine J.nil ?_
    refine EJ.thenN (hK2 ?_)
    refine CJ.ret ?_
    refine EJ.ret1 rfl (Res.tmp rfl) fun w hH => ?_
    exact ⟨rb (isDeg_any hg6p), hH⟩
  ·
    try have hg6p := of_decide_eq_false hg6
    refine J.gn rfl rfl rfl hg6 ?_
    refine J.gn rfl rfl rfl hg6 ?_
    refine J.gn rfl rfl rfl hg6 ?_
    refine J.p (PR.pickF rfl hg6 rfl) rfl ?_
    refine J.p (PR.assign rfl) rfl ?_
    refine J.nil ?_
    refine EJ.thenN (hK2 ?_)
    refine CJ.ret ?_
    refine EJ.ret1 rfl (Res.tmp rfl) fun w hH => ?_
    exact ⟨rb (by unfold isDeg; rw [decide_eq_false (by omega)]; rfl), hH⟩
end Go.Proofs.Ytpojpokldncglaa.G
namespace Go.Proofs.Ytpojpokldncglaa.G
open Go Go.RowKit
namespace Wc
theorem u2 : Try.prog.underlying 2 = some (TypeDesc.int .i64) := by kernel_rfl
theorem u22 : Try.prog.underlying 22 = some (TypeDesc.slice 2) := by kernel_rfl
theorem u3 : Try.prog.underlying 3 = some (TypeDesc.int .i64) := by kernel_rfl
theorem u5 : Try.prog.underlying 5 = some (TypeDesc.int .u8) := by kernel_rfl
theorem u86 : Try.prog.underlying 86 = some (TypeDesc.array 8 5) := by kernel_rfl
theorem u94 : Try.prog.underlying 94 = some (TypeDesc.array 8 3) := by kernel_rfl
theorem sz2 : Size Try.prog 2 1 := by unfold Size; kernel_rfl
theorem sz3 : Size Try.prog 3 1 := by unfold Size; kernel_rfl
theorem sz5 : Size Try.prog 5 1 := by unfold Size; kernel_rfl
theorem sz94 : Size Try.prog 94 8 := by unfold Size; kernel_rfl
theorem ze94 : Zero Try.prog 94 [.int .i64 0, .int .i64 0, .int .i64 0, .int .i64 0, .int .i64 0, .int .i64 0, .int .i64 0, .int .i64 0] := by unfold Zero; kernel_rfl
theorem bz94 : ∀ w, (Instr.build 94 #[]).run Try.prog w = .ok (.agg [.int .i64 0, .int .i64 0, .int .i64 0, .int .i64 0, .int .i64 0, .int .i64 0, .int .i64 0, .int .i64 0].toArray) w := fun _ => by kernel_rfl
theorem pl2 : Plain Try.prog 2 := ⟨_, u2, rfl⟩
theorem pl3 : Plain Try.prog 3 := ⟨_, u3, rfl⟩
theorem pl5 : Plain Try.prog 5 := ⟨_, u5, rfl⟩
theorem ag86 : Agg Try.prog 86 8 := ⟨_, u86, rfl, by kernel_rfl⟩
theorem ag94 : Agg Try.prog 94 8 := ⟨_, u94, rfl, by kernel_rfl⟩
theorem foll0 : Try.prog.follows .mixedOrders = true := by kernel_rfl
end Wc
open Wc
def wsum (ds m : List Int) : Nat → Int
  | 0 => 0
  | k + 1 => wsum ds m k + ds.getD k 0 * m.getD k 0
theorem mul_bd {a b A B : Int} (h1 : 0 ≤ a ∧ a ≤ A) (h2 : 0 ≤ b ∧ b ≤ B) : 0 ≤ a * b ∧ a * b ≤ A * B :=
  ⟨Int.mul_nonneg h1.1 h2.1, Int.mul_le_mul h1.2 h2.2 h2.1 (by omega)⟩
theorem wsum_bd {ds m : List Int} {M : Int} (hd : ∀ j, 0 ≤ ds.getD j 0 ∧ ds.getD j 0 ≤ 12) (hm : ∀ j, 0 ≤ m.getD j 0 ∧ m.getD j 0 ≤ M) : ∀ k : Nat, 0 ≤ wsum ds m k ∧ wsum ds m k ≤ k * (12 * M)
  | 0 => by simp [wsum]
  | k + 1 => by
    have h1 := wsum_bd hd hm k
    have h2 := mul_bd (hd k) (hm k)
    have e : ((k + 1 : Nat) : Int) * (12 * M) = k * (12 * M) + 12 * M := by rw [Int.natCast_add, Int.add_mul]; simp
    rw [e]
    simp only [wsum]
    omega
theorem isDeg_bd {ds : List Int} (h : isDeg ds = true) : ∀ j, 0 ≤ ds.getD j 0 ∧ ds.getD j 0 ≤ 12 := by
  intro j
  rcases Nat.lt_or_ge j ds.length with hj | hj
  · unfold isDeg at h
    rw [Bool.and_eq_true] at h
    have := List.all_eq_true.1 h.2 (ds.getD j 0) (by rw [List.getD_eq_getElem?_getD, List.getElem?_eq_getElem hj]; exact List.getElem_mem hj)
    rw [Bool.and_eq_true, decide_eq_true_eq, decide_eq_true_eq] at this
    omega
  · rw [List.getD_eq_getElem?_getD, List.getElem?_eq_none hj]
    simp
theorem isDeg_len {ds : List Int} (h : isDeg ds = true) : ds.length ≤ 8 := by
  unfold isDeg at h
  rw [Bool.and_eq_true, decide_eq_true_eq] at h
  exact h.1
def Small (p : List Int) : Prop := ∀ j, 0 ≤ p.getD j 0 ∧ p.getD j 0 ≤ 1000000
theorem Mono.small {m : List Int} (h : Mono m) : Small m := fun j => by have := h.bd j; omega
set_option maxRecDepth 10000 in
theorem powerOf_c {B : World} {H0 H : HP} {L : List SA} {w : World} {m : List Int}  (hm : Mono m) (hH : Hp B H0 H L w) :
    Calls Try.prog 134 [.agg (bytesC m).toArray].toArray w fun e w' => e = .returned (.agg (intsC m).toArray) ∧ Hp B H0 H L w' := by
  refine CJ.enter Try.func134 rfl 18 rfl rfl [(0, .agg (bytesC m).toArray)] rfl hH ?_
  have hml := hm.len
  clear hH
  refine CJ.seq fun _ hK1 _ => ?_
  refine CJ.region ?_
  refine J.box rfl rfl rfl fun g1 => ?_
  refine J.alloc ze94 rfl fun g2 => ?_
  refine J.nil ?_
  refine EJ.thenN (hK1 ?_)
  refine CJ.seq fun _ hK2 _ => ?_
  refine CJ.region ?_
  refine J.p (PR.buildZ bz94) rfl ?_
  refine J.alloc ze94 rfl fun g3 => ?_
  refine J.storeAll rfl rfl (by first | exact bytesC_one _ | exact intsC_one _ | exact Term.c_one _ | simp [Value.oneCell']) (by simpa [*] using sz94) (by simp [*]) At.z ?_
  refine J.nil ?_
  refine EJ.thenN (hK2 ?_)
  refine CJ.seq fun _ hK3 _ => ?_
  refine CJ.seq fun _ hK4 _ => ?_
  refine CJ.region ?_
  refine J.p (PR.loadAll rfl (.s (.s .z)) (by simpa [*] using ag86)) rfl ?_
  refine J.p (PR.move rfl) rfl ?_
  refine J.nil ?_
  refine EJ.thenN (hK4 ?_)
  refine CJ.block ?_
  refine CJ.loopU (σ := Nat) (fun (k : Nat) => [(8, .int .i64 (k : Int))]) (fun (k : Nat) => H) (fun (k : Nat) => obj g3 (.cells (intsC (m.take k ++ List.replicate (m.length - k) 0)).toArray 94 (0, 0)) :: obj g2 (.cells (intsC (List.replicate 8 0)).toArray 94 (0, 0)) :: obj g1 (.cells (bytesC m).toArray 86 (0, 0)) :: L) (fun (k : Nat) => k ≤ 8) (fun (k : Nat) => 8 - k) 0 (by omega) ⟨rfl, trivial⟩ rfl (by rw [hml]; rfl) ?_
  rintro k hI _ hAg0
  have hb := hm.bd k
  refine CJ.seq fun _ hK5 _ => ?_
  refine CJ.region ?_
  refine J.p (PR.lss rfl rfl) rfl ?_
  refine J.nil ?_
  refine EJ.thenN (hK5 ?_)
  refine CJ.seq fun _ hK6 _ => ?_
  refine CJ.condD rfl (fun hc9 => ?_) (fun hc9 => ?_)
  ·
    refine CJ.skip ?_
    refine EJ.thenN (hK6 ?_)
    refine CJ.seq fun _ hK7 _ => ?_
    refine CJ.block ?_
    refine CJ.seq fun _ hK8 _ => ?_
    refine CJ.region ?_
    refine J.p (PR.move rfl) rfl ?_
    refine J.p (PR.index u86 sz5 pl5 rfl rfl rfl (by omega) (bytesC_get (by omega))) rfl ?_
    refine J.p (PR.assign rfl) rfl ?_
    refine J.p (PR.assign rfl) rfl ?_
    refine J.nil ?_
    refine EJ.thenN (hK8 ?_)
    refine CJ.region ?_
    refine J.p (PR.move rfl) rfl ?_
    refine J.p (PR.move rfl) rfl ?_
    refine J.p (PR.conv u5 u3 rfl (by first | exact nw _ (by omega) | rfl)) rfl ?_
    refine J.p (PR.idxA1 u94 sz3 rfl rfl rfl (by omega)) rfl ?_
    refine J.storeI rfl rfl sz3 (by simp; omega) At.z ?_
    refine J.nil ?_
    refine EJ.inN ?_
    refine EJ.thenN (hK7 ?_)
    refine CJ.region ?_
    refine J.p (PR.add rfl rfl (by first | exact nw _ (by omega) | rfl)) rfl ?_
    refine J.p (PR.move rfl) rfl ?_
    refine J.nil ?_
    refine EJ.thenN ?_
    exact hAg0 (k + 1) (by omega) (by omega) 12 rfl rfl ⟨rfl, trivial⟩ rfl (by rw [← fill_step (by omega)])
  ·
    refine CJ.exit ?_
    refine EJ.thenE ?_
    refine EJ.thenE ?_
    refine EJ.inE ?_
    refine EJ.thenN (hK3 ?_)
    refine CJ.seq fun _ hK9 _ => ?_
    refine CJ.region ?_
    refine J.p (PR.loadAll rfl At.z (by simpa [*] using ag94)) rfl ?_
    refine J.storeAll rfl rfl (by first | exact bytesC_one _ | exact intsC_one _ | exact Term.c_one _ | simp [Value.oneCell']) (by simpa [*] using sz94) (by simp [*]) (.s .z) ?_
    refine J.nil ?_
    refine EJ.thenN (hK9 ?_)
    refine CJ.ret ?_
    refine EJ.ret1 rfl (Res.agg rfl (.s .z) (by simpa [*] using ag94)) fun w hH => ?_
    replace hH := hH.tail
    replace hH := hH.tail
    replace hH := hH.tail
    obtain rfl : k = m.length := by omega
    exact ⟨by rw [fill_end], hH⟩
set_option maxRecDepth 10000 in
theorem degree_c {B : World} {H0 H : HP} {L : List SA} {w : World} {p : List Int} {qds : Option Addr} {cds : Nat} {ds : List Int}  (hp : p.length = 8) (hds : Ints H qds ds) (hn : ds.length ≤ 8) (hd : ∀ j, 0 ≤ ds.getD j 0 ∧ ds.getD j 0 ≤ 12) (hs : Small p) (hH : Hp B H0 H L w) :
    Calls Try.prog 79 [.agg (intsC p).toArray, .slice qds ds.length cds].toArray w fun e w' => e = .returned (.int .i64 (wsum ds p ds.length)) ∧ Hp B H0 H L w' := by
  refine CJ.enter Try.func79 rfl 24 rfl rfl [(0, .agg (intsC p).toArray), (1, .slice qds ds.length cds)] rfl hH ?_
  clear hH
  refine CJ.seq fun _ hK1 _ => ?_
  refine CJ.region ?_
  refine J.box rfl rfl rfl fun g2 => ?_
  refine J.p (PR.assign rfl) rfl ?_
  refine J.nil ?_
  refine EJ.thenN (hK1 ?_)
  refine CJ.seq fun _ hK2 _ => ?_
  refine CJ.region ?_
  refine J.p (PR.assign rfl) rfl ?_
  refine J.nil ?_
  refine EJ.thenN (hK2 ?_)
  refine CJ.seq fun _ hK3 _ => ?_
  refine CJ.seq fun _ hK4 _ => ?_
  refine CJ.region ?_
  refine J.p (PR.move rfl) rfl ?_
  refine J.p (PR.lenSlice u22 rfl rfl) rfl ?_
  refine J.p (PR.move rfl) rfl ?_
  refine J.nil ?_
  refine EJ.thenN (hK4 ?_)
  refine CJ.block ?_
  refine CJ.loopU (σ := Nat) (fun (k : Nat) => [(10, .int .i64 (k : Int)), (5, .int .i64 (wsum ds p k))]) (fun (k : Nat) => H) (fun (k : Nat) => obj g2 (.cells (intsC p).toArray 94 (0, 0)) :: L) (fun (k : Nat) => k ≤ ds.length) (fun (k : Nat) => ds.length - k) 0 (by omega) ⟨rfl, ⟨rfl, trivial⟩⟩ rfl rfl ?_
  rintro k hI _ hAg0
  have hk := hI
  have b1 := wsum_bd hd hs k
  have b2 := mul_bd (hd k) (hs k)
  refine CJ.seq fun _ hK5 _ => ?_
  refine CJ.region ?_
  refine J.p (PR.lss rfl rfl) rfl ?_
  refine J.nil ?_
  refine EJ.thenN (hK5 ?_)
  refine CJ.seq fun _ hK6 _ => ?_
  refine CJ.condD rfl (fun hc11 => ?_) (fun hc11 => ?_)
  ·
    refine CJ.skip ?_
    refine EJ.thenN (hK6 ?_)
    refine CJ.seq fun _ hK7 _ => ?_
    refine CJ.block ?_
    refine CJ.seq fun _ hK8 _ => ?_
    refine CJ.region ?_
    refine J.p (PR.move rfl) rfl ?_
    refine J.p (PR.idx1 u22 sz2 rfl rfl rfl (by omega) hds.sm) rfl ?_
    refine J.p (PR.loadH rfl (hds _ (by omega)) pl2) rfl ?_
    refine J.p (PR.assign rfl) rfl ?_
    refine J.p (PR.assign rfl) rfl ?_
    refine J.nil ?_
    refine EJ.thenN (hK8 ?_)
    refine CJ.region ?_
    refine J.p (PR.move rfl) rfl ?_
    refine J.p (PR.move rfl) rfl ?_
    refine J.p (PR.move rfl) rfl ?_
    refine J.p (PR.idxA1 u94 sz3 rfl rfl rfl (by omega)) rfl ?_
    refine J.p (PR.load rfl At.z (by first | exact bytesC_get (by simp [*]; omega) | exact intsC_get (by simp [*]; omega)) pl3) rfl ?_
    refine J.p (PR.mul rfl rfl (by first | exact nw _ (by omega) | rfl)) rfl ?_
    refine J.p (PR.add rfl rfl (by first | exact nw _ (by omega) | rfl)) rfl ?_
    refine J.p (PR.assign rfl) rfl ?_
    refine J.nil ?_
    refine EJ.inN ?_
    refine EJ.thenN (hK7 ?_)
    refine CJ.region ?_
    refine J.p (PR.add rfl rfl (by first | exact nw _ (by omega) | rfl)) rfl ?_
    refine J.p (PR.move rfl) rfl ?_
    refine J.nil ?_
    refine EJ.thenN ?_
    exact hAg0 (k + 1) (by omega) (by omega) 18 rfl rfl ⟨rfl, ⟨rfl, trivial⟩⟩ rfl rfl
  ·
    refine CJ.exit ?_
    refine EJ.thenE ?_
    refine EJ.thenE ?_
    refine EJ.inE ?_
    refine EJ.thenN (hK3 ?_)
    refine CJ.seq fun _ hK9 _ => ?_
    refine CJ.region ?_
    refine J.p (PR.move rfl) rfl ?_
    refine J.p (PR.assign rfl) rfl ?_
    refine J.nil ?_
    refine EJ.thenN (hK9 ?_)
    refine CJ.ret ?_
    refine EJ.ret1 rfl (Res.tmp rfl) fun w hH => ?_
    replace hH := hH.tail
    obtain rfl : k = ds.length := by omega
    exact ⟨rfl, hH⟩
set_option maxRecDepth 10000 in
theorem l01Weight_c {B : World} {H0 H : HP} {L : List SA} {w : World} {qds : Option Addr} {cds : Nat} {ds : List Int} {m : List Int}  (hds : Ints H qds ds) (hm : Mono m) (hn : ds.length ≤ 8) (hd : ∀ j, 0 ≤ ds.getD j 0 ∧ ds.getD j 0 ≤ 12) (hH : Hp B H0 H L w) :
    Calls Try.prog 72 [.slice qds ds.length cds, .agg (bytesC m).toArray].toArray w fun e w' => e = .returned (.int .i64 (wsum ds m ds.length)) ∧ Hp B H0 H L w' := by
  refine CJ.enter Try.func72 rfl 25 rfl rfl [(0, .slice qds ds.length cds), (1, .agg (bytesC m).toArray)] rfl hH ?_
  have hml := hm.len
  clear hH
  refine CJ.seq fun _ hK1 _ => ?_
  refine CJ.region ?_
  refine J.box rfl rfl rfl fun g3 => ?_
  refine J.p (PR.assign rfl) rfl ?_
  refine J.nil ?_
  refine EJ.thenN (hK1 ?_)
  refine CJ.seq fun _ hK2 _ => ?_
  refine CJ.region ?_
  refine J.p (PR.assign rfl) rfl ?_
  refine J.nil ?_
  refine EJ.thenN (hK2 ?_)
  refine CJ.seq fun _ hK3 _ => ?_
  refine CJ.seq fun _ hK4 _ => ?_
  refine CJ.region ?_
  refine J.p (PR.assign rfl) rfl ?_
  refine J.nil ?_
  refine EJ.thenN (hK4 ?_)
  refine CJ.block ?_
  refine CJ.loopU (σ := Nat) (fun (k : Nat) => [(6, .int .i64 (k : Int)), (5, .int .i64 (wsum ds m k))]) (fun (k : Nat) => H) (fun (k : Nat) => obj g3 (.cells (bytesC m).toArray 86 (0, 0)) :: L) (fun (k : Nat) => k ≤ ds.length) (fun (k : Nat) => ds.length - k) 0 (by omega) ⟨rfl, ⟨rfl, trivial⟩⟩ rfl rfl ?_
  rintro k hI _ hAg0
  have hk := hI
  have b1 := wsum_bd hd hm.small k
  have b2 := mul_bd (hd k) (hm.small k)
  have hb := hm.bd k
  refine CJ.seq fun _ hK5 _ => ?_
  refine CJ.seq fun _ hK6 _ => ?_
  refine CJ.region ?_
  refine J.p (PR.move rfl) rfl ?_
  refine J.p (PR.move rfl) rfl ?_
  refine J.p (PR.lenSlice u22 rfl rfl) rfl ?_
  refine J.p (PR.lss rfl rfl) rfl ?_
  refine J.nil ?_
  refine EJ.thenN (hK6 ?_)
  refine CJ.condD rfl (fun hc10 => ?_) (fun hc10 => ?_)
  ·
    refine CJ.skip ?_
    refine EJ.thenN (hK5 ?_)
    refine CJ.seq fun _ hK7 _ => ?_
    refine CJ.block ?_
    refine CJ.regionD foll0 (by kernel_rfl) ?_
    refine JS.op (PR.move rfl) rfl ?_
    refine JS.op (PR.move rfl) rfl ?_
    refine JS.op (PR.move rfl) rfl ?_
    refine JS.op (PR.idx1 u22 sz2 rfl rfl rfl (by omega) hds.sm) rfl ?_
    refine JS.op (PR.loadH rfl (hds _ (by omega)) pl2) rfl ?_
    refine JS.op (PR.move rfl) rfl ?_
    refine JS.op (PR.idxA1 u86 sz5 rfl rfl rfl (by omega)) rfl ?_
    refine JS.op (PR.load rfl At.z (by first | exact bytesC_get (by simp [*]; omega) | exact intsC_get (by simp [*]; omega)) pl5) rfl ?_
    refine JS.op (PR.conv u5 u2 rfl (by first | exact nw _ (by omega) | rfl)) rfl ?_
    refine JS.op (PR.mul rfl rfl (by first | exact nw _ (by omega) | rfl)) rfl ?_
    refine JS.op (PR.add rfl rfl (by first | exact nw _ (by omega) | rfl)) rfl ?_
    refine JS.op (PR.assign rfl) rfl ?_
    refine JS.nil ?_
    refine EJ.inN ?_
    refine EJ.thenN (hK7 ?_)
    refine CJ.region ?_
    refine J.p (PR.move rfl) rfl ?_
    refine J.p (PR.add rfl rfl (by first | exact nw _ (by omega) | rfl)) rfl ?_
    refine J.p (PR.assign rfl) rfl ?_
    refine J.nil ?_
    refine EJ.thenN ?_
    exact hAg0 (k + 1) (by omega) (by omega) 21 rfl rfl ⟨rfl, ⟨rfl, trivial⟩⟩ rfl rfl
  ·
    refine CJ.exit ?_
    refine EJ.thenE ?_
    refine EJ.thenE ?_
    refine EJ.inE ?_
    refine EJ.thenN (hK3 ?_)
    refine CJ.seq fun _ hK8 _ => ?_
    refine CJ.region ?_
    refine J.p (PR.move rfl) rfl ?_
    refine J.p (PR.assign rfl) rfl ?_
    refine J.nil ?_
    refine EJ.thenN (hK8 ?_)
    refine CJ.ret ?_
    refine EJ.ret1 rfl (Res.tmp rfl) fun w hH => ?_
    replace hH := hH.tail
    obtain rfl : k = ds.length := by omega
    exact ⟨rfl, hH⟩
end Go.Proofs.Ytpojpokldncglaa.G
namespace Go.Proofs.Ytpojpokldncglaa.G
open Go Go.RowKit
namespace Wd
theorem u139 : Try.prog.underlying 139 = some (TypeDesc.struct #[{ name := "Monomial", type := 85, offset := 0, embedded := false, tag := "", pkgPath := "", byteOffset := 0 }, { name := "Factor", type := 2, offset := 8, embedded := false, tag := "", pkgPath := "", byteOffset := 8 }]) := by kernel_rfl
theorem u2 : Try.prog.underlying 2 = some (TypeDesc.int .i64) := by kernel_rfl
theorem u23 : Try.prog.underlying 23 = some (TypeDesc.slice 139) := by kernel_rfl
theorem u25 : Try.prog.underlying 25 = some (TypeDesc.struct #[{ name := "Terms", type := 23, offset := 0, embedded := false, tag := "", pkgPath := "", byteOffset := 0 }]) := by kernel_rfl
theorem u27 : Try.prog.underlying 27 = some (TypeDesc.slice 88) := by kernel_rfl
theorem u29 : Try.prog.underlying 29 = some (TypeDesc.struct #[{ name := "Terms", type := 27, offset := 0, embedded := false, tag := "", pkgPath := "", byteOffset := 0 }]) := by kernel_rfl
theorem u3 : Try.prog.underlying 3 = some (TypeDesc.int .i64) := by kernel_rfl
theorem u5 : Try.prog.underlying 5 = some (TypeDesc.int .u8) := by kernel_rfl
theorem u85 : Try.prog.underlying 85 = some (TypeDesc.array 8 5) := by kernel_rfl
theorem u86 : Try.prog.underlying 86 = some (TypeDesc.array 8 5) := by kernel_rfl
theorem u88 : Try.prog.underlying 88 = some (TypeDesc.struct #[{ name := "Monomial", type := 86, offset := 0, embedded := false, tag := "", pkgPath := "", byteOffset := 0 }, { name := "Factor", type := 2, offset := 8, embedded := false, tag := "", pkgPath := "", byteOffset := 8 }]) := by kernel_rfl
theorem u94 : Try.prog.underlying 94 = some (TypeDesc.array 8 3) := by kernel_rfl
theorem sz139 : Size Try.prog 139 9 := by unfold Size; kernel_rfl
theorem sz2 : Size Try.prog 2 1 := by unfold Size; kernel_rfl
theorem sz23 : Size Try.prog 23 1 := by unfold Size; kernel_rfl
theorem sz27 : Size Try.prog 27 1 := by unfold Size; kernel_rfl
theorem sz29 : Size Try.prog 29 1 := by unfold Size; kernel_rfl
theorem sz3 : Size Try.prog 3 1 := by unfold Size; kernel_rfl
theorem sz5 : Size Try.prog 5 1 := by unfold Size; kernel_rfl
theorem sz85 : Size Try.prog 85 8 := by unfold Size; kernel_rfl
theorem sz86 : Size Try.prog 86 8 := by unfold Size; kernel_rfl
theorem sz88 : Size Try.prog 88 9 := by unfold Size; kernel_rfl
theorem by88 : Bytes Try.prog 88 16 := by unfold Bytes; kernel_rfl
theorem ze29 : Zero Try.prog 29 [.slice none 0 0] := by unfold Zero; kernel_rfl
theorem ze88 : Zero Try.prog 88 [.int .u8 0, .int .u8 0, .int .u8 0, .int .u8 0, .int .u8 0, .int .u8 0, .int .u8 0, .int .u8 0, .int .i64 0] := by unfold Zero; kernel_rfl
theorem pl2 : Plain Try.prog 2 := ⟨_, u2, rfl⟩
theorem pl23 : Plain Try.prog 23 := ⟨_, u23, rfl⟩
theorem pl27 : Plain Try.prog 27 := ⟨_, u27, rfl⟩
theorem pl3 : Plain Try.prog 3 := ⟨_, u3, rfl⟩
theorem pl5 : Plain Try.prog 5 := ⟨_, u5, rfl⟩
theorem ag139 : Agg Try.prog 139 9 := ⟨_, u139, rfl, by kernel_rfl⟩
theorem ag29 : Agg Try.prog 29 1 := ⟨_, u29, rfl, by kernel_rfl⟩
theorem ag85 : Agg Try.prog 85 8 := ⟨_, u85, rfl, by kernel_rfl⟩
theorem ag86 : Agg Try.prog 86 8 := ⟨_, u86, rfl, by kernel_rfl⟩
theorem ag88 : Agg Try.prog 88 9 := ⟨_, u88, rfl, by kernel_rfl⟩
theorem fn130 : Fn Try.prog 130 := ⟨_, Try.func130, by kernel_rfl, rfl⟩
theorem fn135 : Fn Try.prog 135 := ⟨_, Try.func135, by kernel_rfl, rfl⟩
theorem fn168 : Fn Try.prog 168 := ⟨_, Try.func168, by kernel_rfl, rfl⟩
theorem fn170 : Fn Try.prog 170 := ⟨_, Try.func170, by kernel_rfl, rfl⟩
theorem fn70 : Fn Try.prog 70 := ⟨_, Try.func70, by kernel_rfl, rfl⟩
theorem fn73 : Fn Try.prog 73 := ⟨_, Try.func73, by kernel_rfl, rfl⟩
theorem fn80 : Fn Try.prog 80 := ⟨_, Try.func80, by kernel_rfl, rfl⟩
theorem fn86 : Fn Try.prog 86 := ⟨_, Try.func86, by kernel_rfl, rfl⟩
theorem foll0 : Try.prog.follows .mixedOrders = true := by kernel_rfl
end Wd
open Wd
set_option maxRecDepth 10000 in
theorem szTermS_c {B : World} {H0 H : HP} {L : List SA} {w : World} {qts : Option Addr} {cts : Nat} {ts : List Term} {left : Int}  (hts : Terms H qts ts) (hn : 0 ≤ left ∧ left ≤ 1000000000 ∧ ts.length ≤ 9223372036854775807) (hH : Hp B H0 H L w) :
    Calls Try.prog 70 [.slice qts ts.length cts, .int .i64 left].toArray w fun e w' => e = .returned (.int .i64 (if left - ts.length < 0 then -1 else left - ts.length)) ∧ Hp B H0 H L w' := by
  refine CJ.enter Try.func70 rfl 12 rfl rfl [(0, .slice qts ts.length cts), (1, .int .i64 left)] rfl hH ?_
  clear hH
  refine CJ.seq fun _ hK1 _ => ?_
  refine CJ.region ?_
  refine J.p (PR.assign rfl) rfl ?_
  refine J.nil ?_
  refine EJ.thenN (hK1 ?_)
  refine CJ.seq fun _ hK2 _ => ?_
  refine CJ.region ?_
  refine J.p (PR.move rfl) rfl ?_
  refine J.p (PR.move rfl) rfl ?_
  refine J.p (PR.lenSlice u23 rfl rfl) rfl ?_
  refine J.p (PR.sub rfl rfl (by first | exact nw _ (by omega) | rfl)) rfl ?_
  refine J.p (PR.assign rfl) rfl ?_
  refine J.nil ?_
  refine EJ.thenN (hK2 ?_)
  refine CJ.seq fun _ hK3 _ => ?_
  refine CJ.seq fun _ hK4 _ => ?_
  refine CJ.region ?_
  refine J.p (PR.move rfl) rfl ?_
  refine J.p (PR.lss rfl rfl) rfl ?_
  refine J.nil ?_
  refine EJ.thenN (hK4 ?_)
  refine CJ.condD rfl (fun h10 => ?_) (fun h10 => ?_)
  ·
    refine CJ.seq fun _ hK5 _ => ?_
    refine CJ.region ?_
    refine J.p (PR.assign rfl) rfl ?_
    refine J.nil ?_
    refine EJ.thenN (hK5 ?_)
    refine CJ.ret ?_
    refine EJ.thenR ?_
    refine EJ.ret1 rfl (Res.tmp rfl) fun w hH => ?_
    exact ⟨by rw [if_pos h10], hH⟩
  ·
    refine CJ.skip ?_
    refine EJ.thenN (hK3 ?_)
    refine CJ.seq fun _ hK6 _ => ?_
    refine CJ.region ?_
    refine J.p (PR.move rfl) rfl ?_
    refine J.p (PR.assign rfl) rfl ?_
    refine J.nil ?_
    refine EJ.thenN (hK6 ?_)
    refine CJ.ret ?_
    refine EJ.ret1 rfl (Res.tmp rfl) fun w hH => ?_
    exact ⟨by rw [if_neg h10], hH⟩
set_option maxRecDepth 10000 in
theorem szForm_c {B : World} {H0 H : HP} {L : List SA} {w : World} {qts : Option Addr} {cts : Nat} {ts : List Term} {left : Int}  (hts : Terms H qts ts) (hn : 0 ≤ left ∧ left ≤ 1000000000 ∧ ts.length ≤ 9223372036854775807) (hH : Hp B H0 H L w) :
    Calls Try.prog 18 [.agg [.slice qts ts.length cts].toArray, .int .i64 left].toArray w fun e w' => e = .returned (.int .i64 (if left - ts.length < 0 then -1 else left - ts.length)) ∧ Hp B H0 H L w' := by
  refine CJ.enter Try.func18 rfl 12 rfl rfl [(0, .agg [.slice qts ts.length cts].toArray), (1, .int .i64 left)] rfl hH ?_
  clear hH
  refine CJ.seq fun _ hK1 _ => ?_
  refine CJ.region ?_
  refine J.box rfl rfl rfl fun g2 => ?_
  refine J.p (PR.assign rfl) rfl ?_
  refine J.nil ?_
  refine EJ.thenN (hK1 ?_)
  refine CJ.seq fun _ hK2 _ => ?_
  refine CJ.region ?_
  refine J.p (PR.fldA u25 rfl sz23 rfl) rfl ?_
  refine J.p (PR.load rfl At.z rfl pl23) rfl ?_
  refine J.p (PR.move rfl) rfl ?_
  refine J.call fn70 rfl rfl fun w hH => (szTermS_c hts hn hH).mono ?_
  rintro _ w ⟨rfl, hH⟩
  refine ⟨_, rfl, fun a hF => J.of hF hH ?_⟩
  refine J.p (PR.assign rfl) rfl ?_
  refine J.nil ?_
  refine EJ.thenN (hK2 ?_)
  refine CJ.seq fun _ hK3 _ => ?_
  refine CJ.seq fun _ hK4 _ => ?_
  refine CJ.region ?_
  refine J.p (PR.move rfl) rfl ?_
  refine J.p (PR.lss rfl rfl) rfl ?_
  refine J.nil ?_
  refine EJ.thenN (hK4 ?_)
  refine CJ.condD rfl (fun h10 => ?_) (fun h10 => ?_)
  ·
    refine CJ.seq fun _ hK5 _ => ?_
    refine CJ.region ?_
    refine J.p (PR.assign rfl) rfl ?_
    refine J.nil ?_
    refine EJ.thenN (hK5 ?_)
    refine CJ.ret ?_
    refine EJ.thenR ?_
    refine EJ.ret1 rfl (Res.tmp rfl) fun w hH => ?_
    replace hH := hH.tail
    exact ⟨ri (by split at h10 <;> split <;> omega), hH⟩
  ·
    refine CJ.skip ?_
    refine EJ.thenN (hK3 ?_)
    refine CJ.seq fun _ hK6 _ => ?_
    refine CJ.region ?_
    refine J.p (PR.move rfl) rfl ?_
    refine J.p (PR.assign rfl) rfl ?_
    refine J.nil ?_
    refine EJ.thenN (hK6 ?_)
    refine CJ.ret ?_
    refine EJ.ret1 rfl (Res.tmp rfl) fun w hH => ?_
    replace hH := hH.tail
    exact ⟨ri (by split at h10 <;> rfl), hH⟩
set_option maxRecDepth 10000 in
theorem toTerm_c {B : World} {H0 H : HP} {L : List SA} {w : World} {t : Term}  (ht : t.wf) (hH : Hp B H0 H L w) :
    Calls Try.prog 130 [.agg t.c.toArray].toArray w fun e w' => e = .returned (.agg t.c.toArray) ∧ Hp B H0 H L w' := by
  refine CJ.enter Try.func130 rfl 12 rfl rfl [(0, .agg t.c.toArray)] rfl hH ?_
  clear hH
  refine CJ.seq fun _ hK1 _ => ?_
  refine CJ.region ?_
  refine J.box rfl rfl rfl fun g1 => ?_
  refine J.alloc (cs := (default : Term).c) ze88 rfl fun g2 => ?_
  refine J.nil ?_
  refine EJ.thenN (hK1 ?_)
  refine CJ.seq fun _ hK2 _ => ?_
  refine CJ.region ?_
  refine J.alloc (cs := (default : Term).c) ze88 rfl fun g3 => ?_
  refine J.nil ?_
  refine EJ.thenN (hK2 ?_)
  refine CJ.seq fun _ hK3 _ => ?_
  refine CJ.region ?_
  refine J.p (PR.fldA u139 rfl sz85 rfl) rfl ?_
  refine J.p (PR.ldMono rfl (.s (.s .z)) ht ag85) rfl ?_
  refine J.call fn168 rfl rfl fun w hH => (toMonomial_c ht.mono hH).mono ?_
  rintro _ w ⟨rfl, hH⟩
  refine ⟨_, rfl, fun a hF => J.of hF hH ?_⟩
  refine J.p (PR.fldA u88 rfl sz86 rfl) rfl ?_
  refine J.stMono rfl rfl sz86 zero_wf ht.mono At.z ?_
  refine J.nil ?_
  refine EJ.thenN (hK3 ?_)
  refine CJ.seq fun _ hK4 _ => ?_
  refine CJ.region ?_
  refine J.p (PR.fldA u139 rfl sz2 rfl) rfl ?_
  refine J.p (PR.ldFac rfl (.s (.s .z)) ht pl2) rfl ?_
  refine J.p (PR.fldA u88 rfl sz2 rfl) rfl ?_
  refine J.stFac rfl rfl sz2 (Term.wf.of ht.mono zero_wf.fac) At.z ?_
  refine J.nil ?_
  refine EJ.thenN (hK4 ?_)
  refine CJ.seq fun _ hK5 _ => ?_
  refine CJ.region ?_
  refine J.p (PR.ldTerm rfl At.z (Term.wf.of (Term.wf.of ht.mono zero_wf.fac).mono ht.fac) ag88) rfl ?_
  refine J.stTerm rfl rfl sz88 zero_wf (Term.wf.of (Term.wf.of ht.mono zero_wf.fac).mono ht.fac) (.s .z) ?_
  refine J.nil ?_
  refine EJ.thenN (hK5 ?_)
  refine CJ.ret ?_
  refine EJ.ret1 rfl (Res.agg rfl (.s .z) (by rw [Term.c_length ht]; exact ag88)) fun w hH => ?_
  replace hH := hH.tail
  replace hH := hH.tail
  replace hH := hH.tail
  exact ⟨rfl, hH⟩
set_option maxRecDepth 10000 in
theorem toTermS_c {B : World} {H0 H : HP} {L : List SA} {w : World} {qts : Option Addr} {cts : Nat} {ts : List Term}  (hts : Terms H qts ts) (hn : ts.length ≤ 1048576) (hH : Hp B H0 H L w) :
    Calls Try.prog 73 [.slice qts ts.length cts].toArray w fun e w' => ∃ q c, e = .returned (.slice q ts.length c) ∧ Hp B H0 H (own 88 9 q ts.length c (tsC ts) :: L) w' := by
  refine CJ.enter Try.func73 rfl 23 rfl rfl [(0, .slice qts ts.length cts)] rfl hH ?_
  clear hH
  refine CJ.seq fun _ hK1 _ => ?_
  refine CJ.region ?_
  refine J.p (PR.assign rfl) rfl ?_
  refine J.nil ?_
  refine EJ.thenN (hK1 ?_)
  refine CJ.seq fun _ hK2 _ => ?_
  refine CJ.region ?_
  refine J.p (PR.move rfl) rfl ?_
  refine J.p (PR.lenSlice u23 rfl rfl) rfl ?_
  refine J.makeT u27 ze88 sz88 by88 rfl rfl rfl rfl (by omega) rfl fun g7 => ?_
  refine J.p (PR.assign rfl) rfl ?_
  refine J.nil ?_
  refine EJ.thenN (hK2 ?_)
  refine CJ.seq fun _ hK3 _ => ?_
  refine CJ.seq fun _ hK4 _ => ?_
  refine CJ.region ?_
  refine J.p (PR.assign rfl) rfl ?_
  refine J.nil ?_
  refine EJ.thenN (hK4 ?_)
  refine CJ.block ?_
  refine CJ.loopU (σ := Nat) (fun (k : Nat) => [(4, .int .i64 (k : Int))]) (fun (k : Nat) => H) (fun (k : Nat) => obj g7 (.cells (tsC (ts.take k ++ List.replicate (ts.length - k) default)).toArray 88 (0, 0)) :: L) (fun (k : Nat) => k ≤ ts.length) (fun (k : Nat) => ts.length - k) 0 (by omega) ⟨rfl, trivial⟩ rfl rfl ?_
  rintro k hI _ hAg0
  have hk := hI
  refine CJ.seq fun _ hK5 _ => ?_
  refine CJ.seq fun _ hK6 _ => ?_
  refine CJ.region ?_
  refine J.p (PR.move rfl) rfl ?_
  refine J.p (PR.move rfl) rfl ?_
  refine J.p (PR.lenSlice u23 rfl rfl) rfl ?_
  refine J.p (PR.lss rfl rfl) rfl ?_
  refine J.nil ?_
  refine EJ.thenN (hK6 ?_)
  refine CJ.condD rfl (fun hc11 => ?_) (fun hc11 => ?_)
  ·
    refine CJ.skip ?_
    refine EJ.thenN (hK5 ?_)
    refine CJ.seq fun _ hK7 _ => ?_
    refine CJ.block ?_
    refine CJ.region ?_
    refine J.p (PR.move rfl) rfl ?_
    refine J.p (PR.move rfl) rfl ?_
    refine J.p (PR.move rfl) rfl ?_
    refine J.p (PR.move rfl) rfl ?_
    refine J.p (PR.idx u23 sz139 rfl rfl rfl (by omega) hts.sm) rfl ?_
    refine J.p (PR.loadHagg rfl (hts.cell _ (by omega)) (hts.sm (i := k) (by omega)) (by rw [Term.c_length (hts.wf _ (by omega))]; exact ag139)) rfl ?_
    refine J.call fn130 rfl rfl fun w hH => (toTerm_c (hts.wf k (by omega)) hH).mono ?_
    rintro _ w ⟨rfl, hH⟩
    refine ⟨_, rfl, fun a hF => J.of hF hH ?_⟩
    refine J.p (PR.idxO u27 sz88 rfl rfl rfl (by omega)) rfl ?_
    refine J.storeT rfl rfl sz88 (by simp; omega) (fillT_wf hts.wfs _ _) (hts.wf k (by omega)) At.z ?_
    refine J.nil ?_
    refine EJ.inN ?_
    refine EJ.thenN (hK7 ?_)
    refine CJ.region ?_
    refine J.p (PR.move rfl) rfl ?_
    refine J.p (PR.add rfl rfl (by first | exact nw _ (by omega) | rfl)) rfl ?_
    refine J.p (PR.assign rfl) rfl ?_
    refine J.nil ?_
    refine EJ.thenN ?_
    exact hAg0 (k + 1) (by omega) (by omega) 16 rfl rfl ⟨rfl, trivial⟩ rfl (by rw [← fillT_step (by omega)])
  ·
    refine CJ.exit ?_
    refine EJ.thenE ?_
    refine EJ.thenE ?_
    refine EJ.inE ?_
    refine EJ.thenN (hK3 ?_)
    refine CJ.seq fun _ hK8 _ => ?_
    refine CJ.region ?_
    refine J.p (PR.move rfl) rfl ?_
    refine J.p (PR.assign rfl) rfl ?_
    refine J.nil ?_
    refine EJ.thenN (hK8 ?_)
    refine CJ.ret ?_
    refine EJ.ret1 rfl (Res.tmp rfl) fun w hH => ?_
    obtain rfl : k = ts.length := by omega
    rw [fillT_end] at hH
    exact ⟨_, _, rfl, own_full _ 9 hH (tsC_length hts.wfs) (by simp only [maxLen]; omega)⟩
set_option maxRecDepth 10000 in
theorem toForm_c {B : World} {H0 H : HP} {L : List SA} {w : World} {qts : Option Addr} {cts : Nat} {ts : List Term}  (hts : Terms H qts ts) (hn : ts.length ≤ 1048576) (hH : Hp B H0 H L w) :
    Calls Try.prog 21 [.agg [.slice qts ts.length cts].toArray].toArray w fun e w' => ∃ q c, e = .returned (.agg [.slice q ts.length c].toArray) ∧ Hp B H0 H (own 88 9 q ts.length c (tsC ts) :: L) w' := by
  refine CJ.enter Try.func21 rfl 9 rfl rfl [(0, .agg [.slice qts ts.length cts].toArray)] rfl hH ?_
  clear hH
  refine CJ.seq fun _ hK1 _ => ?_
  refine CJ.region ?_
  refine J.box rfl rfl rfl fun g1 => ?_
  refine J.alloc ze29 rfl fun g2 => ?_
  refine J.nil ?_
  refine EJ.thenN (hK1 ?_)
  refine CJ.seq fun _ hK2 _ => ?_
  refine CJ.region ?_
  refine J.alloc ze29 rfl fun g3 => ?_
  refine J.nil ?_
  refine EJ.thenN (hK2 ?_)
  refine CJ.seq fun _ hK3 _ => ?_
  refine CJ.region ?_
  refine J.p (PR.fldA u25 rfl sz23 rfl) rfl ?_
  refine J.p (PR.load rfl (.s (.s .z)) rfl pl23) rfl ?_
  refine J.call fn73 rfl rfl fun w hH => (toTermS_c hts (by omega) hH).mono ?_
  rintro _ w ⟨qo6, co6, rfl, hH⟩
  refine ⟨_, rfl, fun a hF => J.of hF hH ?_⟩
  refine J.p (PR.fldA u29 rfl sz27 rfl) rfl ?_
  refine J.store rfl rfl rfl rfl sz27 (by simp [*]) (.s .z) ?_
  refine J.nil ?_
  refine EJ.thenN (hK3 ?_)
  refine CJ.seq fun _ hK4 _ => ?_
  refine CJ.region ?_
  refine J.p (PR.loadAll rfl (.s .z) (by simpa [*] using ag29)) rfl ?_
  refine J.storeAll rfl rfl (by first | exact bytesC_one _ | exact intsC_one _ | exact Term.c_one _ | simp [Value.oneCell']) (by simpa [*] using sz29) (by simp [*]) (.s (.s .z)) ?_
  refine J.nil ?_
  refine EJ.thenN (hK4 ?_)
  refine CJ.ret ?_
  refine EJ.ret1 rfl (Res.agg rfl (.s (.s .z)) (by simpa [*] using ag29)) fun w hH => ?_
  replace hH := hH.sublist (.cons_cons _ (.cons _ (.cons _ (.cons _ (List.Sublist.refl _)))))
  exact ⟨_, _, rfl, hH⟩
def cmp (p q : List Int) : Int := match (List.range 8).find? (fun i => decide (p.getD i 0 ≠ q.getD i 0)) with | some i => q.getD i 0 - p.getD i 0 | none => 0
def before (a b : List Int) : Bool := decide (cmp a b < 0)
theorem range_find {p : Nat → Bool} {k n : Nat} (hk : k < n) (h : ∀ j, j < k → p j = false) (hp : p k = true) : (List.range n).find? p = some k := by
  rw [List.find?_eq_some_iff_getElem]
  exact ⟨hp, k, by simp [hk], by simp, fun j hj => by simp [h j hj]⟩
theorem range_find_none {p : Nat → Bool} {n : Nat} (h : ∀ j, j < n → p j = false) : (List.range n).find? p = none := by
  rw [List.find?_eq_none]
  intro j hj
  simp [h j (List.mem_range.1 hj)]
theorem cmp_hit {p q : List Int} {k : Nat} (hk : k < 8) (h : ∀ j, j < k → p.getD j 0 = q.getD j 0) (hn : p.getD k 0 ≠ q.getD k 0) : cmp p q = q.getD k 0 - p.getD k 0 := by
  unfold cmp
  rw [range_find (p := fun i => decide (p.getD i 0 ≠ q.getD i 0)) hk (fun j hj => decide_eq_false (by simpa using h j hj)) (decide_eq_true hn)]
theorem cmp_miss {p q : List Int} (h : ∀ j, j < 8 → p.getD j 0 = q.getD j 0) : cmp p q = 0 := by
  unfold cmp
  rw [range_find_none (p := fun i => decide (p.getD i 0 ≠ q.getD i 0)) (fun j hj => decide_eq_false (by simpa using h j hj))]
theorem before_hit {p q : List Int} {k : Nat} (hk : k < 8) (h : ∀ j, j < k → p.getD j 0 = q.getD j 0) (hn : p.getD k 0 ≠ q.getD k 0) : before p q = decide (p.getD k 0 > q.getD k 0) := by
  unfold before
  rw [cmp_hit hk h hn]
  exact decide_eq_decide.2 (by omega)
theorem before_miss {p q : List Int} (h : ∀ j, j < 8 → p.getD j 0 = q.getD j 0) : before p q = false := by
  unfold before
  rw [cmp_miss h]
  rfl
def goodAt (ds : List Int) (ts : List Term) (i : Nat) : Bool :=
  isMono ds (tm ts i).mono && (decide (1 ≤ (tm ts i).fac) && decide ((tm ts i).fac ≤ 10006)) && (decide (i = 0) || before (tm ts (i - 1)).mono (tm ts i).mono)
def isForm (ds : List Int) (ts : List Term) : Bool := decide (ts.length ≤ 400) && (List.range ts.length).all (goodAt ds ts)
theorem isForm_long {ds : List Int} {ts : List Term} (h : ¬ (ts.length : Int) ≤ 400) : isForm ds ts = false := by
  unfold isForm
  rw [decide_eq_false (by omega)]
  rfl
theorem isForm_bad {ds : List Int} {ts : List Term} {k : Nat} (hk : k < ts.length) (h : goodAt ds ts k = false) : isForm ds ts = false := by
  unfold isForm
  rw [Bool.and_eq_false_iff]
  exact .inr (List.all_eq_false.2 ⟨k, by simpa using hk, by simp [h]⟩)
theorem isForm_good {ds : List Int} {ts : List Term} (h : ∀ j, j < ts.length → goodAt ds ts j = true) : isForm ds ts = decide ((ts.length : Int) ≤ 400) := by
  unfold isForm
  rw [List.all_eq_true.2 (fun j hj => h j (by simpa using hj)), Bool.and_true]
  exact decide_eq_decide.2 (by omega)
theorem mono_eq_of {a b : List Int} (ha : Mono a) (hb : Mono b) (h : ∀ j, j < 8 → a.getD j 0 = b.getD j 0) : a = b := list_eq_of (by rw [ha.len, hb.len]) (fun j hj => h j (by rw [ha.len] at hj; exact hj))
set_option maxRecDepth 10000 in
theorem eqMonomial_c {B : World} {H0 H : HP} {L : List SA} {w : World} {a : List Int} {b : List Int}  (ha : Mono a) (hb : Mono b) (hH : Hp B H0 H L w) :
    Calls Try.prog 170 [.agg (bytesC a).toArray, .agg (bytesC b).toArray].toArray w fun e w' => e = .returned (.bool (decide (a = b))) ∧ Hp B H0 H L w' := by
  refine CJ.enter Try.func170 rfl 17 rfl rfl [(0, .agg (bytesC a).toArray), (1, .agg (bytesC b).toArray)] rfl hH ?_
  have hal := ha.len
  have hbl := hb.len
  clear hH
  refine CJ.seq fun _ hK1 _ => ?_
  refine CJ.region ?_
  refine J.box rfl rfl rfl fun g2 => ?_
  refine J.box rfl rfl rfl fun g3 => ?_
  refine J.p (PR.assign rfl) rfl ?_
  refine J.nil ?_
  refine EJ.thenN (hK1 ?_)
  refine CJ.seq fun _ hK2 _ => ?_
  refine CJ.seq fun _ hK3 _ => ?_
  refine CJ.region ?_
  refine J.p (PR.assign rfl) rfl ?_
  refine J.nil ?_
  refine EJ.thenN (hK3 ?_)
  refine CJ.block ?_
  refine CJ.loopU (σ := Nat) (fun (k : Nat) => [(5, .int .i64 (k : Int))]) (fun (k : Nat) => H) (fun (k : Nat) => obj g3 (.cells (bytesC b).toArray 86 (0, 0)) :: obj g2 (.cells (bytesC a).toArray 86 (0, 0)) :: L) (fun (k : Nat) => k ≤ 8 ∧ ∀ j, j < k → a.getD j 0 = b.getD j 0) (fun (k : Nat) => 8 - k) 0 ⟨by omega, fun j hj => by omega⟩ ⟨rfl, trivial⟩ rfl rfl ?_
  rintro k hI _ hAg0
  have hk := hI.1
  refine CJ.seq fun _ hK4 _ => ?_
  refine CJ.seq fun _ hK5 _ => ?_
  refine CJ.region ?_
  refine J.p (PR.move rfl) rfl ?_
  refine J.p (PR.lss rfl rfl) rfl ?_
  refine J.nil ?_
  refine EJ.thenN (hK5 ?_)
  refine CJ.condD rfl (fun hc7 => ?_) (fun hc7 => ?_)
  ·
    refine CJ.skip ?_
    refine EJ.thenN (hK4 ?_)
    refine CJ.seq fun _ hK6 _ => ?_
    refine CJ.block ?_
    refine CJ.seq fun _ hK7 _ => ?_
    refine CJ.regionD foll0 (by kernel_rfl) ?_
    refine JS.op (PR.move rfl) rfl ?_
    refine JS.op (PR.idxA1 u86 sz5 rfl rfl rfl (by omega)) rfl ?_
    refine JS.op (PR.load rfl (.s .z) (by first | exact bytesC_get (by simp [*]; omega) | exact intsC_get (by simp [*]; omega)) pl5) rfl ?_
    refine JS.op (PR.move rfl) rfl ?_
    refine JS.op (PR.idxA1 u86 sz5 rfl rfl rfl (by omega)) rfl ?_
    refine JS.op (PR.load rfl At.z (by first | exact bytesC_get (by simp [*]; omega) | exact intsC_get (by simp [*]; omega)) pl5) rfl ?_
    refine JS.op (PR.neq rfl rfl) rfl ?_
    refine JS.nil ?_
    refine EJ.thenN (hK7 ?_)
    refine CJ.condD rfl (fun h16 => ?_) (fun h16 => ?_)
    ·
      refine CJ.seq fun _ hK8 _ => ?_
      refine CJ.region ?_
      refine J.p (PR.assign rfl) rfl ?_
      refine J.nil ?_
      refine EJ.thenN (hK8 ?_)
      refine CJ.ret ?_
      refine EJ.inR ?_
      refine EJ.thenR ?_
      refine EJ.thenR ?_
      refine EJ.inR ?_
      refine EJ.thenR ?_
      refine EJ.ret1 rfl (Res.tmp rfl) fun w hH => ?_
      replace hH := hH.tail
      replace hH := hH.tail
      exact ⟨rb (decide_eq_false (fun e => h16 (by rw [e]))).symm, hH⟩
    ·
      refine CJ.skip ?_
      refine EJ.inN ?_
      refine EJ.thenN (hK6 ?_)
      refine CJ.region ?_
      refine J.p (PR.move rfl) rfl ?_
      refine J.p (PR.add rfl rfl (by first | exact nw _ (by omega) | rfl)) rfl ?_
      refine J.p (PR.assign rfl) rfl ?_
      refine J.nil ?_
      refine EJ.thenN ?_
      exact hAg0 (k + 1) ⟨by omega, upto hI.2 (by omega)⟩ (by omega) 13 rfl rfl ⟨rfl, trivial⟩ rfl rfl
  ·
    refine CJ.exit ?_
    refine EJ.thenE ?_
    refine EJ.thenE ?_
    refine EJ.inE ?_
    refine EJ.thenN (hK2 ?_)
    refine CJ.seq fun _ hK9 _ => ?_
    refine CJ.region ?_
    refine J.p (PR.assign rfl) rfl ?_
    refine J.nil ?_
    refine EJ.thenN (hK9 ?_)
    refine CJ.ret ?_
    refine EJ.ret1 rfl (Res.tmp rfl) fun w hH => ?_
    replace hH := hH.tail
    replace hH := hH.tail
    exact ⟨rb (decide_eq_true (mono_eq_of ha hb (fun j hj => hI.2 j (by omega)))).symm, hH⟩
set_option maxRecDepth 10000 in
theorem eqTerm_c {B : World} {H0 H : HP} {L : List SA} {w : World} {a : Term} {b : Term}  (ha : a.wf) (hb : b.wf) (hH : Hp B H0 H L w) :
    Calls Try.prog 135 [.agg a.c.toArray, .agg b.c.toArray].toArray w fun e w' => e = .returned (.bool (decide (a = b))) ∧ Hp B H0 H L w' := by
  refine CJ.enter Try.func135 rfl 16 rfl rfl [(0, .agg a.c.toArray), (1, .agg b.c.toArray)] rfl hH ?_
  clear hH
  refine CJ.seq fun _ hK1 _ => ?_
  refine CJ.region ?_
  refine J.box rfl rfl rfl fun g2 => ?_
  refine J.box rfl rfl rfl fun g3 => ?_
  refine J.p (PR.assign rfl) rfl ?_
  refine J.nil ?_
  refine EJ.thenN (hK1 ?_)
  refine CJ.seq fun _ hK2 _ => ?_
  refine CJ.seq fun _ hK3 _ => ?_
  refine CJ.region ?_
  refine J.p (PR.fldA u88 rfl sz86 rfl) rfl ?_
  refine J.p (PR.ldMono rfl (.s .z) ha ag86) rfl ?_
  refine J.p (PR.fldA u88 rfl sz86 rfl) rfl ?_
  refine J.p (PR.ldMono rfl At.z hb ag86) rfl ?_
  refine J.call fn170 rfl rfl fun w hH => (eqMonomial_c ha.mono hb.mono hH).mono ?_
  rintro _ w ⟨rfl, hH⟩
  refine ⟨_, rfl, fun a hF => J.of hF hH ?_⟩
  refine J.p (PR.not rfl) rfl ?_
  refine J.nil ?_
  refine EJ.thenN (hK3 ?_)
  refine CJ.cond rfl (fun h10 => ?_) (fun h10 => ?_)
  ·
    refine CJ.seq fun _ hK4 _ => ?_
    refine CJ.region ?_
    refine J.p (PR.assign rfl) rfl ?_
    refine J.nil ?_
    refine EJ.thenN (hK4 ?_)
    refine CJ.ret ?_
    refine EJ.thenR ?_
    refine EJ.ret1 rfl (Res.tmp rfl) fun w hH => ?_
    replace hH := hH.tail
    replace hH := hH.tail
    exact ⟨rb (decide_eq_false (fun e => (by rw [e] at h10; simp at h10))).symm, hH⟩
  ·
    refine CJ.skip ?_
    refine EJ.thenN (hK2 ?_)
    refine CJ.seq fun _ hK5 _ => ?_
    refine CJ.seq fun _ hK6 _ => ?_
    refine CJ.region ?_
    refine J.p (PR.fldA u88 rfl sz2 rfl) rfl ?_
    refine J.p (PR.ldFac rfl (.s .z) ha pl2) rfl ?_
    refine J.p (PR.fldA u88 rfl sz2 rfl) rfl ?_
    refine J.p (PR.ldFac rfl At.z hb pl2) rfl ?_
    refine J.p (PR.neq rfl rfl) rfl ?_
    refine J.nil ?_
    refine EJ.thenN (hK6 ?_)
    refine CJ.condD rfl (fun h15 => ?_) (fun h15 => ?_)
    ·
      refine CJ.seq fun _ hK7 _ => ?_
      refine CJ.region ?_
      refine J.p (PR.assign rfl) rfl ?_
      refine J.nil ?_
      refine EJ.thenN (hK7 ?_)
      refine CJ.ret ?_
      refine EJ.thenR ?_
      refine EJ.ret1 rfl (Res.tmp rfl) fun w hH => ?_
      replace hH := hH.tail
      replace hH := hH.tail
      exact ⟨rb (decide_eq_false (fun e => h15 (by rw [e]))).symm, hH⟩
    ·
      refine CJ.skip ?_
      refine EJ.thenN (hK5 ?_)
      refine CJ.seq fun _ hK8 _ => ?_
      refine CJ.region ?_
      refine J.p (PR.assign rfl) rfl ?_
      refine J.nil ?_
      refine EJ.thenN (hK8 ?_)
      refine CJ.ret ?_
      refine EJ.ret1 rfl (Res.tmp rfl) fun w hH => ?_
      replace hH := hH.tail
      replace hH := hH.tail
      exact ⟨rb (decide_eq_true (Term.eq_of (of_decide_eq_true (notf h10)) (by omega))).symm, hH⟩
set_option maxRecDepth 10000 in
theorem eqTermS_c {B : World} {H0 H : HP} {L : List SA} {w : World} {qxs : Option Addr} {cxs : Nat} {xs : List Term} {qys : Option Addr} {cys : Nat} {ys : List Term}  (hxs : Terms H qxs xs) (hys : Terms H qys ys) (hn : xs.length ≤ 9223372036854775807) (hH : Hp B H0 H L w) :
    Calls Try.prog 80 [.slice qxs xs.length cxs, .slice qys ys.length cys].toArray w fun e w' => e = .returned (.bool (decide (xs = ys))) ∧ Hp B H0 H L w' := by
  refine CJ.enter Try.func80 rfl 27 rfl rfl [(0, .slice qxs xs.length cxs), (1, .slice qys ys.length cys)] rfl hH ?_
  clear hH
  refine CJ.seq fun _ hK1 _ => ?_
  refine CJ.region ?_
  refine J.p (PR.assign rfl) rfl ?_
  refine J.nil ?_
  refine EJ.thenN (hK1 ?_)
  refine CJ.seq fun _ hK2 _ => ?_
  refine CJ.seq fun _ hK3 _ => ?_
  refine CJ.region ?_
  refine J.p (PR.move rfl) rfl ?_
  refine J.p (PR.lenSlice u27 rfl rfl) rfl ?_
  refine J.p (PR.move rfl) rfl ?_
  refine J.p (PR.lenSlice u27 rfl rfl) rfl ?_
  refine J.p (PR.neq rfl rfl) rfl ?_
  refine J.nil ?_
  refine EJ.thenN (hK3 ?_)
  refine CJ.condD rfl (fun h10 => ?_) (fun h10 => ?_)
  ·
    refine CJ.seq fun _ hK4 _ => ?_
    refine CJ.region ?_
    refine J.p (PR.assign rfl) rfl ?_
    refine J.nil ?_
    refine EJ.thenN (hK4 ?_)
    refine CJ.ret ?_
    refine EJ.thenR ?_
    refine EJ.ret1 rfl (Res.tmp rfl) fun w hH => ?_
    exact ⟨rb (decide_eq_false (fun e => h10 (by rw [e]))).symm, hH⟩
  ·
    refine CJ.skip ?_
    refine EJ.thenN (hK2 ?_)
    refine CJ.seq fun _ hK5 _ => ?_
    refine CJ.seq fun _ hK6 _ => ?_
    refine CJ.region ?_
    refine J.p (PR.assign rfl) rfl ?_
    refine J.nil ?_
    refine EJ.thenN (hK6 ?_)
    refine CJ.block ?_
    refine CJ.loopU (σ := Nat) (fun (k : Nat) => [(5, .int .i64 (k : Int))]) (fun (k : Nat) => H) (fun (k : Nat) => L) (fun (k : Nat) => k ≤ xs.length ∧ ∀ j, j < k → tm xs j = tm ys j) (fun (k : Nat) => xs.length - k) 0 ⟨by omega, fun j hj => by omega⟩ ⟨rfl, trivial⟩ rfl rfl ?_
    rintro k hI _ hAg0
    have hk := hI.1
    refine CJ.seq fun _ hK7 _ => ?_
    refine CJ.seq fun _ hK8 _ => ?_
    refine CJ.region ?_
    refine J.p (PR.move rfl) rfl ?_
    refine J.p (PR.move rfl) rfl ?_
    refine J.p (PR.lenSlice u27 rfl rfl) rfl ?_
    refine J.p (PR.lss rfl rfl) rfl ?_
    refine J.nil ?_
    refine EJ.thenN (hK8 ?_)
    refine CJ.condD rfl (fun hc14 => ?_) (fun hc14 => ?_)
    ·
      refine CJ.skip ?_
      refine EJ.thenN (hK7 ?_)
      refine CJ.seq fun _ hK9 _ => ?_
      refine CJ.block ?_
      refine CJ.seq fun _ hK10 _ => ?_
      refine CJ.head [[], [], [0, 1], [2], [], [], [4, 5], [6]] (by kernel_rfl) ?_
      refine HJ.op (fun gh => PR.move rfl) ?_
      refine HJ.op (fun gh => PR.move rfl) ?_
      refine HJ.op (fun gh => PR.idx u27 sz88 rfl rfl rfl (by omega) hxs.sm) ?_
      refine HJ.op (fun gh => PR.loadHagg rfl (hxs.cell _ (by omega)) (hxs.sm (i := k) (by omega)) (by rw [Term.c_length (hxs.wf _ (by omega))]; exact ag88)) ?_
      refine HJ.op (fun gh => PR.move rfl) ?_
      refine HJ.op (fun gh => PR.move rfl) ?_
      refine HJ.op (fun gh => PR.idx u27 sz88 rfl rfl rfl (by omega) hys.sm) ?_
      refine HJ.op (fun gh => PR.loadHagg rfl (hys.cell _ (by omega)) (hys.sm (i := k) (by omega)) (by rw [Term.c_length (hys.wf _ (by omega))]; exact ag88)) ?_
      refine HJ.close 8 1 foll0 (by kernel_rfl) rfl rfl fun gh => ?_
      refine J.conv (us' := (17, _) :: (18, _) :: (19, _) :: (20, _) :: (21, _) :: (22, _) :: (23, _) :: (24, _) :: _) (L' := _) rfl rfl ?_
      refine J.call fn135 rfl rfl fun w hH => (eqTerm_c (hxs.wf k (by omega)) (hys.wf k (by omega)) hH).mono ?_
      rintro _ w ⟨rfl, hH⟩
      refine ⟨_, rfl, fun a hF => J.of hF hH ?_⟩
      refine J.nil ?_
      refine EJ.still ?_
      refine JS.op (PR.not rfl) rfl ?_
      refine JS.nil ?_
      refine EJ.thenN (hK10 ?_)
      refine CJ.cond rfl (fun h26 => ?_) (fun h26 => ?_)
      ·
        refine CJ.seq fun _ hK11 _ => ?_
        refine CJ.region ?_
        refine J.p (PR.assign rfl) rfl ?_
        refine J.nil ?_
        refine EJ.thenN (hK11 ?_)
        refine CJ.ret ?_
        refine EJ.inR ?_
        refine EJ.thenR ?_
        refine EJ.thenR ?_
        refine EJ.inR ?_
        refine EJ.thenR ?_
        refine EJ.ret1 rfl (Res.tmp rfl) fun w hH => ?_
        exact ⟨rb (decide_eq_false (fun e => (by rw [e] at h26; simp at h26))).symm, hH⟩
      ·
        refine CJ.skip ?_
        refine EJ.inN ?_
        refine EJ.thenN (hK9 ?_)
        refine CJ.region ?_
        refine J.p (PR.move rfl) rfl ?_
        refine J.p (PR.add rfl rfl (by first | exact nw _ (by omega) | rfl)) rfl ?_
        refine J.p (PR.assign rfl) rfl ?_
        refine J.nil ?_
        refine EJ.thenN ?_
        exact hAg0 (k + 1) ⟨by omega, upto hI.2 (of_decide_eq_true (notf h26))⟩ (by omega) 18 rfl rfl ⟨rfl, trivial⟩ rfl rfl
    ·
      refine CJ.exit ?_
      refine EJ.thenE ?_
      refine EJ.thenE ?_
      refine EJ.inE ?_
      refine EJ.thenN (hK5 ?_)
      refine CJ.seq fun _ hK12 _ => ?_
      refine CJ.region ?_
      refine J.p (PR.assign rfl) rfl ?_
      refine J.nil ?_
      refine EJ.thenN (hK12 ?_)
      refine CJ.ret ?_
      refine EJ.ret1 rfl (Res.tmp rfl) fun w hH => ?_
      exact ⟨rb (decide_eq_true (terms_eq_of (by omega) (fun j hj => hI.2 j (by omega)))).symm, hH⟩
set_option maxRecDepth 10000 in
theorem eqForm_c {B : World} {H0 H : HP} {L : List SA} {w : World} {qxs : Option Addr} {cxs : Nat} {xs : List Term} {qys : Option Addr} {cys : Nat} {ys : List Term}  (hxs : Terms H qxs xs) (hys : Terms H qys ys) (hn : xs.length ≤ 9223372036854775807) (hH : Hp B H0 H L w) :
    Calls Try.prog 23 [.agg [.slice qxs xs.length cxs].toArray, .agg [.slice qys ys.length cys].toArray].toArray w fun e w' => e = .returned (.bool (decide (xs = ys))) ∧ Hp B H0 H L w' := by
  refine CJ.enter Try.func23 rfl 11 rfl rfl [(0, .agg [.slice qxs xs.length cxs].toArray), (1, .agg [.slice qys ys.length cys].toArray)] rfl hH ?_
  clear hH
  refine CJ.seq fun _ hK1 _ => ?_
  refine CJ.region ?_
  refine J.box rfl rfl rfl fun g2 => ?_
  refine J.box rfl rfl rfl fun g3 => ?_
  refine J.p (PR.assign rfl) rfl ?_
  refine J.nil ?_
  refine EJ.thenN (hK1 ?_)
  refine CJ.seq fun _ hK2 _ => ?_
  refine CJ.seq fun _ hK3 _ => ?_
  refine CJ.region ?_
  refine J.p (PR.fldA u29 rfl sz27 rfl) rfl ?_
  refine J.p (PR.load rfl (.s .z) rfl pl27) rfl ?_
  refine J.p (PR.fldA u29 rfl sz27 rfl) rfl ?_
  refine J.p (PR.load rfl At.z rfl pl27) rfl ?_
  refine J.call fn80 rfl rfl fun w hH => (eqTermS_c hxs hys (by omega) hH).mono ?_
  rintro _ w ⟨rfl, hH⟩
  refine ⟨_, rfl, fun a hF => J.of hF hH ?_⟩
  refine J.p (PR.not rfl) rfl ?_
  refine J.nil ?_
  refine EJ.thenN (hK3 ?_)
  refine CJ.cond rfl (fun h10 => ?_) (fun h10 => ?_)
  ·
    refine CJ.seq fun _ hK4 _ => ?_
    refine CJ.region ?_
    refine J.p (PR.assign rfl) rfl ?_
    refine J.nil ?_
    refine EJ.thenN (hK4 ?_)
    refine CJ.ret ?_
    refine EJ.thenR ?_
    refine EJ.ret1 rfl (Res.tmp rfl) fun w hH => ?_
    replace hH := hH.tail
    replace hH := hH.tail
    exact ⟨rb (nott h10).symm, hH⟩
  ·
    refine CJ.skip ?_
    refine EJ.thenN (hK2 ?_)
    refine CJ.seq fun _ hK5 _ => ?_
    refine CJ.region ?_
    refine J.p (PR.assign rfl) rfl ?_
    refine J.nil ?_
    refine EJ.thenN (hK5 ?_)
    refine CJ.ret ?_
    refine EJ.ret1 rfl (Res.tmp rfl) fun w hH => ?_
    replace hH := hH.tail
    replace hH := hH.tail
    exact ⟨rb (notf h10).symm, hH⟩
set_option maxRecDepth 10000 in
theorem l01Before_c {B : World} {H0 H : HP} {L : List SA} {w : World} {a : List Int} {b : List Int}  (ha : Mono a) (hb : Mono b) (hH : Hp B H0 H L w) :
    Calls Try.prog 167 [.agg (bytesC a).toArray, .agg (bytesC b).toArray].toArray w fun e w' => e = .returned (.bool (before a b)) ∧ Hp B H0 H L w' := by
  refine CJ.enter Try.func167 rfl 24 rfl rfl [(0, .agg (bytesC a).toArray), (1, .agg (bytesC b).toArray)] rfl hH ?_
  have hal := ha.len
  have hbl := hb.len
  clear hH
  refine CJ.seq fun _ hK1 _ => ?_
  refine CJ.region ?_
  refine J.box rfl rfl rfl fun g2 => ?_
  refine J.box rfl rfl rfl fun g3 => ?_
  refine J.p (PR.assign rfl) rfl ?_
  refine J.nil ?_
  refine EJ.thenN (hK1 ?_)
  refine CJ.seq fun _ hK2 _ => ?_
  refine CJ.seq fun _ hK3 _ => ?_
  refine CJ.region ?_
  refine J.p (PR.assign rfl) rfl ?_
  refine J.nil ?_
  refine EJ.thenN (hK3 ?_)
  refine CJ.block ?_
  refine CJ.loopU (σ := Nat) (fun (k : Nat) => [(5, .int .i64 (k : Int))]) (fun (k : Nat) => H) (fun (k : Nat) => obj g3 (.cells (bytesC b).toArray 86 (0, 0)) :: obj g2 (.cells (bytesC a).toArray 86 (0, 0)) :: L) (fun (k : Nat) => k ≤ 8 ∧ ∀ j, j < k → a.getD j 0 = b.getD j 0) (fun (k : Nat) => 8 - k) 0 ⟨by omega, fun j hj => by omega⟩ ⟨rfl, trivial⟩ rfl rfl ?_
  rintro k hI _ hAg0
  have hk := hI.1
  refine CJ.seq fun _ hK4 _ => ?_
  refine CJ.seq fun _ hK5 _ => ?_
  refine CJ.region ?_
  refine J.p (PR.move rfl) rfl ?_
  refine J.p (PR.lss rfl rfl) rfl ?_
  refine J.nil ?_
  refine EJ.thenN (hK5 ?_)
  refine CJ.condD rfl (fun hc7 => ?_) (fun hc7 => ?_)
  ·
    refine CJ.skip ?_
    refine EJ.thenN (hK4 ?_)
    refine CJ.seq fun _ hK6 _ => ?_
    refine CJ.block ?_
    refine CJ.seq fun _ hK7 _ => ?_
    refine CJ.regionD foll0 (by kernel_rfl) ?_
    refine JS.op (PR.move rfl) rfl ?_
    refine JS.op (PR.idxA1 u86 sz5 rfl rfl rfl (by omega)) rfl ?_
    refine JS.op (PR.load rfl (.s .z) (by first | exact bytesC_get (by simp [*]; omega) | exact intsC_get (by simp [*]; omega)) pl5) rfl ?_
    refine JS.op (PR.move rfl) rfl ?_
    refine JS.op (PR.idxA1 u86 sz5 rfl rfl rfl (by omega)) rfl ?_
    refine JS.op (PR.load rfl At.z (by first | exact bytesC_get (by simp [*]; omega) | exact intsC_get (by simp [*]; omega)) pl5) rfl ?_
    refine JS.op (PR.neq rfl rfl) rfl ?_
    refine JS.nil ?_
    refine EJ.thenN (hK7 ?_)
    refine CJ.condD rfl (fun h16 => ?_) (fun h16 => ?_)
    ·
      refine CJ.seq fun _ hK8 _ => ?_
      refine CJ.regionD foll0 (by kernel_rfl) ?_
      refine JS.op (PR.move rfl) rfl ?_
      refine JS.op (PR.idxA1 u86 sz5 rfl rfl rfl (by omega)) rfl ?_
      refine JS.op (PR.load rfl (.s .z) (by first | exact bytesC_get (by simp [*]; omega) | exact intsC_get (by simp [*]; omega)) pl5) rfl ?_
      refine JS.op (PR.move rfl) rfl ?_
      refine JS.op (PR.idxA1 u86 sz5 rfl rfl rfl (by omega)) rfl ?_
      refine JS.op (PR.load rfl At.z (by first | exact bytesC_get (by simp [*]; omega) | exact intsC_get (by simp [*]; omega)) pl5) rfl ?_
      refine JS.op (PR.gtr rfl rfl) rfl ?_
      refine JS.op (PR.assign rfl) rfl ?_
      refine JS.nil ?_
      refine EJ.thenN (hK8 ?_)
      refine CJ.ret ?_
      refine EJ.inR ?_
      refine EJ.thenR ?_
      refine EJ.thenR ?_
      refine EJ.inR ?_
      refine EJ.thenR ?_
      refine EJ.ret1 rfl (Res.tmp rfl) fun w hH => ?_
      replace hH := hH.tail
      replace hH := hH.tail
      exact ⟨rb (before_hit (by omega) hI.2 h16).symm, hH⟩
    ·
      refine CJ.skip ?_
      refine EJ.inN ?_
      refine EJ.thenN (hK6 ?_)
      refine CJ.region ?_
      refine J.p (PR.move rfl) rfl ?_
      refine J.p (PR.add rfl rfl (by first | exact nw _ (by omega) | rfl)) rfl ?_
      refine J.p (PR.assign rfl) rfl ?_
      refine J.nil ?_
      refine EJ.thenN ?_
      exact hAg0 (k + 1) ⟨by omega, upto hI.2 (by omega)⟩ (by omega) 13 rfl rfl ⟨rfl, trivial⟩ rfl rfl
  ·
    refine CJ.exit ?_
    refine EJ.thenE ?_
    refine EJ.thenE ?_
    refine EJ.inE ?_
    refine EJ.thenN (hK2 ?_)
    refine CJ.seq fun _ hK9 _ => ?_
    refine CJ.region ?_
    refine J.p (PR.assign rfl) rfl ?_
    refine J.nil ?_
    refine EJ.thenN (hK9 ?_)
    refine CJ.ret ?_
    refine EJ.ret1 rfl (Res.tmp rfl) fun w hH => ?_
    replace hH := hH.tail
    replace hH := hH.tail
    exact ⟨rb (before_miss (fun j hj => hI.2 j (by omega))).symm, hH⟩
set_option maxRecDepth 10000 in
theorem compare_c {B : World} {H0 H : HP} {L : List SA} {w : World} {a : List Int} {b : List Int}  (ha : a.length = 8) (hb : b.length = 8) (hsa : Small a) (hsb : Small b) (hH : Hp B H0 H L w) :
    Calls Try.prog 141 [.agg (intsC a).toArray, .agg (intsC b).toArray].toArray w fun e w' => e = .returned (.int .i64 (cmp a b)) ∧ Hp B H0 H L w' := by
  refine CJ.enter Try.func141 rfl 24 rfl rfl [(0, .agg (intsC a).toArray), (1, .agg (intsC b).toArray)] rfl hH ?_
  clear hH
  refine CJ.seq fun _ hK1 _ => ?_
  refine CJ.region ?_
  refine J.box rfl rfl rfl fun g2 => ?_
  refine J.box rfl rfl rfl fun g3 => ?_
  refine J.p (PR.assign rfl) rfl ?_
  refine J.nil ?_
  refine EJ.thenN (hK1 ?_)
  refine CJ.seq fun _ hK2 _ => ?_
  refine CJ.seq fun _ hK3 _ => ?_
  refine CJ.region ?_
  refine J.p (PR.move rfl) rfl ?_
  refine J.nil ?_
  refine EJ.thenN (hK3 ?_)
  refine CJ.block ?_
  refine CJ.loopU (σ := Nat) (fun (k : Nat) => [(6, .int .i64 (k : Int))]) (fun (k : Nat) => H) (fun (k : Nat) => obj g3 (.cells (intsC b).toArray 94 (0, 0)) :: obj g2 (.cells (intsC a).toArray 94 (0, 0)) :: L) (fun (k : Nat) => k ≤ 8 ∧ ∀ j, j < k → a.getD j 0 = b.getD j 0) (fun (k : Nat) => 8 - k) 0 ⟨by omega, fun j hj => by omega⟩ ⟨rfl, trivial⟩ rfl rfl ?_
  rintro k hI _ hAg0
  have hk := hI.1
  have ba := hsa k
  have bb := hsb k
  refine CJ.seq fun _ hK4 _ => ?_
  refine CJ.region ?_
  refine J.p (PR.lss rfl rfl) rfl ?_
  refine J.nil ?_
  refine EJ.thenN (hK4 ?_)
  refine CJ.seq fun _ hK5 _ => ?_
  refine CJ.condD rfl (fun hc7 => ?_) (fun hc7 => ?_)
  ·
    refine CJ.skip ?_
    refine EJ.thenN (hK5 ?_)
    refine CJ.seq fun _ hK6 _ => ?_
    refine CJ.block ?_
    refine CJ.seq fun _ hK7 _ => ?_
    refine CJ.region ?_
    refine J.p (PR.move rfl) rfl ?_
    refine J.p (PR.assign rfl) rfl ?_
    refine J.nil ?_
    refine EJ.thenN (hK7 ?_)
    refine CJ.seq fun _ hK8 _ => ?_
    refine CJ.regionD foll0 (by kernel_rfl) ?_
    refine JS.op (PR.move rfl) rfl ?_
    refine JS.op (PR.idxA1 u94 sz3 rfl rfl rfl (by omega)) rfl ?_
    refine JS.op (PR.load rfl (.s .z) (by first | exact bytesC_get (by simp [*]; omega) | exact intsC_get (by simp [*]; omega)) pl3) rfl ?_
    refine JS.op (PR.move rfl) rfl ?_
    refine JS.op (PR.idxA1 u94 sz3 rfl rfl rfl (by omega)) rfl ?_
    refine JS.op (PR.load rfl At.z (by first | exact bytesC_get (by simp [*]; omega) | exact intsC_get (by simp [*]; omega)) pl3) rfl ?_
    refine JS.op (PR.neq rfl rfl) rfl ?_
    refine JS.nil ?_
    refine EJ.thenN (hK8 ?_)
    refine CJ.condD rfl (fun h15 => ?_) (fun h15 => ?_)
    ·
      refine CJ.seq fun _ hK9 _ => ?_
      refine CJ.regionD foll0 (by kernel_rfl) ?_
      refine JS.op (PR.move rfl) rfl ?_
      refine JS.op (PR.idxA1 u94 sz3 rfl rfl rfl (by omega)) rfl ?_
      refine JS.op (PR.load rfl At.z (by first | exact bytesC_get (by simp [*]; omega) | exact intsC_get (by simp [*]; omega)) pl3) rfl ?_
      refine JS.op (PR.move rfl) rfl ?_
      refine JS.op (PR.idxA1 u94 sz3 rfl rfl rfl (by omega)) rfl ?_
      refine JS.op (PR.load rfl (.s .z) (by first | exact bytesC_get (by simp [*]; omega) | exact intsC_get (by simp [*]; omega)) pl3) rfl ?_
      refine JS.op (PR.sub rfl rfl (by first | exact nw _ (by omega) | rfl)) rfl ?_
      refine JS.op (PR.assign rfl) rfl ?_
      refine JS.nil ?_
      refine EJ.thenN (hK9 ?_)
      refine CJ.ret ?_
      refine EJ.inR ?_
      refine EJ.thenR ?_
      refine EJ.thenR ?_
      refine EJ.inR ?_
      refine EJ.thenR ?_
      refine EJ.ret1 rfl (Res.tmp rfl) fun w hH => ?_
      replace hH := hH.tail
      replace hH := hH.tail
      exact ⟨ri (cmp_hit (by omega) hI.2 h15).symm, hH⟩
    ·
      refine CJ.skip ?_
      refine EJ.inN ?_
      refine EJ.thenN (hK6 ?_)
      refine CJ.region ?_
      refine J.p (PR.add rfl rfl (by first | exact nw _ (by omega) | rfl)) rfl ?_
      refine J.p (PR.move rfl) rfl ?_
      refine J.nil ?_
      refine EJ.thenN ?_
      exact hAg0 (k + 1) ⟨by omega, upto hI.2 (by omega)⟩ (by omega) 13 rfl rfl ⟨rfl, trivial⟩ rfl rfl
  ·
    refine CJ.exit ?_
    refine EJ.thenE ?_
    refine EJ.thenE ?_
    refine EJ.inE ?_
    refine EJ.thenN (hK2 ?_)
    refine CJ.seq fun _ hK10 _ => ?_
    refine CJ.region ?_
    refine J.p (PR.assign rfl) rfl ?_
    refine J.nil ?_
    refine EJ.thenN (hK10 ?_)
    refine CJ.ret ?_
    refine EJ.ret1 rfl (Res.tmp rfl) fun w hH => ?_
    replace hH := hH.tail
    replace hH := hH.tail
    exact ⟨ri (cmp_miss (fun j hj => hI.2 j (by omega))).symm, hH⟩
set_option maxRecDepth 10000 in
theorem isFactor_c {B : World} {H0 H : HP} {L : List SA} {w : World} {x : Int}   (hH : Hp B H0 H L w) :
    Calls Try.prog 140 [.int .i64 x].toArray w fun e w' => e = .returned (.bool (decide (1 ≤ x) && decide (x ≤ 10006))) ∧ Hp B H0 H L w' := by
  refine CJ.enter Try.func140 rfl 5 rfl rfl [(0, .int .i64 x)] rfl hH ?_
  clear hH
  refine CJ.seq fun _ hK1 _ => ?_
  refine CJ.region ?_
  refine J.p (PR.assign rfl) rfl ?_
  refine J.nil ?_
  refine EJ.thenN (hK1 ?_)
  refine CJ.seq fun _ hK2 _ => ?_
  refine CJ.region ?_
  refine J.p (PR.move rfl) rfl ?_
  refine J.call fn86 rfl rfl fun w hH => (within_c  hH).mono ?_
  rintro _ w ⟨rfl, hH⟩
  refine ⟨_, rfl, fun a hF => J.of hF hH ?_⟩
  refine J.p (PR.assign rfl) rfl ?_
  refine J.nil ?_
  refine EJ.thenN (hK2 ?_)
  refine CJ.ret ?_
  refine EJ.ret1 rfl (Res.tmp rfl) fun w hH => ?_
  exact ⟨rfl, hH⟩
end Go.Proofs.Ytpojpokldncglaa.G
namespace Go.Proofs.Ytpojpokldncglaa.G
open Go Go.RowKit
namespace We
theorem u2 : Try.prog.underlying 2 = some (TypeDesc.int .i64) := by kernel_rfl
theorem u27 : Try.prog.underlying 27 = some (TypeDesc.slice 88) := by kernel_rfl
theorem u29 : Try.prog.underlying 29 = some (TypeDesc.struct #[{ name := "Terms", type := 27, offset := 0, embedded := false, tag := "", pkgPath := "", byteOffset := 0 }]) := by kernel_rfl
theorem u86 : Try.prog.underlying 86 = some (TypeDesc.array 8 5) := by kernel_rfl
theorem u88 : Try.prog.underlying 88 = some (TypeDesc.struct #[{ name := "Monomial", type := 86, offset := 0, embedded := false, tag := "", pkgPath := "", byteOffset := 0 }, { name := "Factor", type := 2, offset := 8, embedded := false, tag := "", pkgPath := "", byteOffset := 8 }]) := by kernel_rfl
theorem sz2 : Size Try.prog 2 1 := by unfold Size; kernel_rfl
theorem sz27 : Size Try.prog 27 1 := by unfold Size; kernel_rfl
theorem sz86 : Size Try.prog 86 8 := by unfold Size; kernel_rfl
theorem sz88 : Size Try.prog 88 9 := by unfold Size; kernel_rfl
theorem ze88 : Zero Try.prog 88 [.int .u8 0, .int .u8 0, .int .u8 0, .int .u8 0, .int .u8 0, .int .u8 0, .int .u8 0, .int .u8 0, .int .i64 0] := by unfold Zero; kernel_rfl
theorem pl2 : Plain Try.prog 2 := ⟨_, u2, rfl⟩
theorem pl27 : Plain Try.prog 27 := ⟨_, u27, rfl⟩
theorem ag29 : Agg Try.prog 29 1 := ⟨_, u29, rfl, by kernel_rfl⟩
theorem ag86 : Agg Try.prog 86 8 := ⟨_, u86, rfl, by kernel_rfl⟩
theorem ag88 : Agg Try.prog 88 9 := ⟨_, u88, rfl, by kernel_rfl⟩
theorem fn128 : Fn Try.prog 128 := ⟨_, Try.func128, by kernel_rfl, rfl⟩
theorem fn129 : Fn Try.prog 129 := ⟨_, Try.func129, by kernel_rfl, rfl⟩
theorem fn134 : Fn Try.prog 134 := ⟨_, Try.func134, by kernel_rfl, rfl⟩
theorem fn139 : Fn Try.prog 139 := ⟨_, Try.func139, by kernel_rfl, rfl⟩
theorem fn140 : Fn Try.prog 140 := ⟨_, Try.func140, by kernel_rfl, rfl⟩
theorem fn141 : Fn Try.prog 141 := ⟨_, Try.func141, by kernel_rfl, rfl⟩
theorem fn166 : Fn Try.prog 166 := ⟨_, Try.func166, by kernel_rfl, rfl⟩
theorem fn167 : Fn Try.prog 167 := ⟨_, Try.func167, by kernel_rfl, rfl⟩
theorem fn83 : Fn Try.prog 83 := ⟨_, Try.func83, by kernel_rfl, rfl⟩
theorem fn90 : Fn Try.prog 90 := ⟨_, Try.func90, by kernel_rfl, rfl⟩
theorem fn91 : Fn Try.prog 91 := ⟨_, Try.func91, by kernel_rfl, rfl⟩
theorem foll0 : Try.prog.follows .mixedOrders = true := by kernel_rfl
end We
open We
theorem good_mono {ds : List Int} {ts : List Term} {i : Nat} (h : isMono ds (tm ts i).mono = false) : goodAt ds ts i = false := by unfold goodAt; rw [h]; rfl
theorem good_fac {ds : List Int} {ts : List Term} {i : Nat} (h : (decide (1 ≤ (tm ts i).fac) && decide ((tm ts i).fac ≤ 10006)) = false) : goodAt ds ts i = false := by unfold goodAt; rw [h, Bool.and_false]; rfl
theorem good_ord {ds : List Int} {ts : List Term} {i : Nat} (h0 : 0 < i) (h : before (tm ts (i - 1)).mono (tm ts i).mono = false) : goodAt ds ts i = false := by unfold goodAt; rw [h, show decide (i = 0) = false from decide_eq_false (by omega)]; simp
theorem good_yes {ds : List Int} {ts : List Term} {i : Nat} (h1 : isMono ds (tm ts i).mono = true) (h2 : (decide (1 ≤ (tm ts i).fac) && decide ((tm ts i).fac ≤ 10006)) = true) (h3 : i = 0 ∨ before (tm ts (i - 1)).mono (tm ts i).mono = true) : goodAt ds ts i = true := by
  unfold goodAt
  rw [h1, h2]
  rcases h3 with h3 | h3
  · rw [decide_eq_true h3]; rfl
  · rw [h3]; simp
theorem before_le {p q : List Int} (h : cmp p q ≥ 0) : before p q = false := decide_eq_false (by omega)
theorem before_lt {p q : List Int} (h : ¬ cmp p q ≥ 0) : before p q = true := decide_eq_true (by omega)
set_option maxHeartbeats 4000000 in
set_option maxRecDepth 10000 in
theorem isForm_c {B : World} {H0 H : HP} {L : List SA} {w : World} {qds : Option Addr} {cds : Nat} {ds : List Int} {qts : Option Addr} {cts : Nat} {ts : List Term}  (hds : Ints H qds ds) (hts : Terms H qts ts) (hn : ds.length ≤ 1048576) (hl : ts.length ≤ 9223372036854775807) (hH : Hp B H0 H L w) :
    Calls Try.prog 91 [.slice qds ds.length cds, .agg [.slice qts ts.length cts].toArray].toArray w fun e w' => e = .returned (.bool (isForm ds ts)) ∧ Hp B H0 H L w' := by
  refine CJ.enter Try.func91 rfl 48 rfl rfl [(0, .slice qds ds.length cds), (1, .agg [.slice qts ts.length cts].toArray)] rfl hH ?_
  clear hH
  refine CJ.seq fun _ hK1 _ => ?_
  refine CJ.region ?_
  refine J.box rfl rfl rfl fun g3 => ?_
  refine J.p (PR.assign rfl) rfl ?_
  refine J.nil ?_
  refine EJ.thenN (hK1 ?_)
  refine CJ.seq fun _ hK2 _ => ?_
  refine CJ.seq fun _ hK3 _ => ?_
  refine CJ.region ?_
  refine J.p (PR.fldA u29 rfl sz27 rfl) rfl ?_
  refine J.p (PR.load rfl At.z rfl pl27) rfl ?_
  refine J.p (PR.lenSlice u27 rfl rfl) rfl ?_
  refine J.p (PR.gtr rfl rfl) rfl ?_
  refine J.nil ?_
  refine EJ.thenN (hK3 ?_)
  refine CJ.condD rfl (fun h10 => ?_) (fun h10 => ?_)
  ·
    refine CJ.seq fun _ hK4 _ => ?_
    refine CJ.region ?_
    refine J.p (PR.assign rfl) rfl ?_
    refine J.nil ?_
    refine EJ.thenN (hK4 ?_)
    refine CJ.ret ?_
    refine EJ.thenR ?_
    refine EJ.ret1 rfl (Res.tmp rfl) fun w hH => ?_
    replace hH := hH.tail
    exact ⟨rb (isForm_long (by omega)).symm, hH⟩
  ·
    refine CJ.skip ?_
    refine EJ.thenN (hK2 ?_)
    refine CJ.seq fun _ hK5 _ => ?_
    refine CJ.seq fun _ hK6 _ => ?_
    refine CJ.region ?_
    refine J.p (PR.fldA u29 rfl sz27 rfl) rfl ?_
    refine J.p (PR.load rfl At.z rfl pl27) rfl ?_
    refine J.p (PR.lenSlice u27 rfl rfl) rfl ?_
    refine J.p (PR.move rfl) rfl ?_
    refine J.nil ?_
    refine EJ.thenN (hK6 ?_)
    refine CJ.block ?_
    refine CJ.loopU (σ := Nat) (fun (k : Nat) => [(14, .int .i64 (k : Int))]) (fun (k : Nat) => H) (fun (k : Nat) => obj g3 (.cells [.slice qts ts.length cts].toArray 29 (0, 0)) :: L) (fun (k : Nat) => k ≤ ts.length ∧ ∀ j, j < k → goodAt ds ts j = true) (fun (k : Nat) => ts.length - k) 0 ⟨by omega, fun j hj => by omega⟩ ⟨rfl, trivial⟩ rfl rfl ?_
    rintro k hI _ hAg0
    have hk := hI.1
    refine CJ.seq fun _ hK7 _ => ?_
    refine CJ.region ?_
    refine J.p (PR.lss rfl rfl) rfl ?_
    refine J.nil ?_
    refine EJ.thenN (hK7 ?_)
    refine CJ.seq fun _ hK8 _ => ?_
    refine CJ.condD rfl (fun hc15 => ?_) (fun hc15 => ?_)
    ·
      refine CJ.skip ?_
      refine EJ.thenN (hK8 ?_)
      refine CJ.seq fun _ hK9 _ => ?_
      refine CJ.block ?_
      refine CJ.seq fun _ hK10 _ => ?_
      refine CJ.region ?_
      refine J.p (PR.move rfl) rfl ?_
      refine J.p (PR.idx u27 sz88 rfl rfl rfl (by omega) hts.sm) rfl ?_
      refine J.p (PR.loadHagg rfl (hts.cell _ (by omega)) (hts.sm (i := k) (by omega)) (by rw [Term.c_length (hts.wf _ (by omega))]; exact ag88)) rfl ?_
      refine J.alloc (cs := (default : Term).c) ze88 rfl fun g6 => ?_
      refine J.p (PR.assign rfl) rfl ?_
      refine J.stTerm rfl rfl sz88 zero_wf (hts.wf k (by omega)) At.z ?_
      refine J.nil ?_
      refine EJ.thenN (hK10 ?_)
      refine CJ.seq fun _ hK11 _ => ?_
      refine CJ.seq fun _ hK12 _ => ?_
      refine CJ.region ?_
      refine J.p (PR.move rfl) rfl ?_
      refine J.p (PR.fldA u88 rfl sz86 rfl) rfl ?_
      refine J.p (PR.ldMono rfl At.z (hts.wf k (by omega)) ag86) rfl ?_
      refine J.call fn139 rfl rfl fun w hH => (isMonomial_c hds (hts.wf k (by omega)).mono (by omega) hH).mono ?_
      rintro _ w ⟨rfl, hH⟩
      refine ⟨_, rfl, fun a hF => J.of hF hH ?_⟩
      refine J.p (PR.not rfl) rfl ?_
      refine J.p (PR.move rfl) rfl ?_
      refine J.splitB (jd := 24) rfl (fun h24 => ?_) (fun h24 => ?_)
      ·
        try have h24p := of_decide_eq_true h24
        refine J.gn rfl rfl rfl h24 ?_
        refine J.gn rfl rfl rfl h24 ?_
        refine J.gn rfl rfl rfl h24 ?_
        refine J.gn rfl rfl rfl h24 ?_
        refine J.p (PR.pickT rfl h24 rfl) rfl ?_
        refine J.nil ?_
        refine EJ.thenN (hK12 ?_)
        refine CJ.condT rfl ?_
        refine CJ.seq fun _ hK13 _ => ?_
        refine CJ.region ?_
        refine J.p (PR.assign rfl) rfl ?_
        refine J.nil ?_
        refine EJ.thenN (hK13 ?_)
        refine CJ.ret ?_
        refine EJ.thenR ?_
        refine EJ.inR ?_
        refine EJ.thenR ?_
        refine EJ.thenR ?_
        refine EJ.inR ?_
        refine EJ.thenR ?_
        refine EJ.ret1 rfl (Res.tmp rfl) fun w hH => ?_
        replace hH := hH.tail
        replace hH := hH.tail
        exact ⟨rb (isForm_bad (k := k) (by omega) (good_mono (nott h24))).symm, hH⟩
      ·
        try have h24p := of_decide_eq_false h24
        refine J.gy (PR.fldA u88 rfl sz2 rfl) rfl rfl rfl h24 ?_
        refine J.gy (PR.ldFac rfl At.z (hts.wf k (by omega)) pl2) rfl rfl rfl h24 ?_
        refine J.gcall fn140 rfl rfl h24 rfl rfl fun w hH => (isFactor_c  hH).mono ?_
        rintro _ w ⟨rfl, hH⟩
        refine ⟨_, rfl, fun a hF => J.of hF hH ?_⟩
        refine J.gy (PR.not rfl) rfl rfl rfl h24 ?_
        refine J.p (PR.pickF rfl h24 rfl) rfl ?_
        refine J.nil ?_
        refine EJ.thenN (hK12 ?_)
        refine CJ.cond rfl (fun h29 => ?_) (fun h29 => ?_)
        ·
          refine CJ.seq fun _ hK14 _ => ?_
          refine CJ.region ?_
          refine J.p (PR.assign rfl) rfl ?_
          refine J.nil ?_
          refine EJ.thenN (hK14 ?_)
          refine CJ.ret ?_
          refine EJ.thenR ?_
          refine EJ.inR ?_
          refine EJ.thenR ?_
          refine EJ.thenR ?_
          refine EJ.inR ?_
          refine EJ.thenR ?_
          refine EJ.ret1 rfl (Res.tmp rfl) fun w hH => ?_
          replace hH := hH.tail
          replace hH := hH.tail
          exact ⟨rb (isForm_bad (k := k) (by omega) (good_fac (nott h29))).symm, hH⟩
        ·
          refine CJ.skip ?_
          refine EJ.thenN (hK11 ?_)
          refine CJ.seq fun _ hK15 _ => ?_
          refine CJ.head [[], [0], [1], [2], [3, 2], [2], [5, 2], [4, 6, 2], [7, 2], [8, 2], [9, 2], [2], [11, 2]] (by kernel_rfl) ?_
          refine HJ.op (fun gh => PR.move rfl) ?_
          refine HJ.op (fun gh => PR.gtr rfl rfl) ?_
          refine HJ.op (fun gh => PR.move rfl) ?_
          refine HJ.splitB 2 rfl (fun h32 => ?_) (fun h32 => ?_)
          ·
            try have h32p := of_decide_eq_true h32
            refine HJ.gy (fun gh => PR.fldA u29 rfl sz27 rfl) rfl (fun gh => rfl) h32 ?_
            refine HJ.gy (fun gh => PR.load rfl (.s .z) rfl pl27) rfl (fun gh => rfl) h32 ?_
            refine HJ.gy (fun gh => PR.move rfl) rfl (fun gh => rfl) h32 ?_
            refine HJ.gy (fun gh => PR.sub rfl rfl (by first | exact nw _ (by omega) | rfl)) rfl (fun gh => rfl) h32 ?_
            refine HJ.gy (fun gh => PR.idx (i' := (k - 1)) u27 sz88 rfl rfl (by omega) (by omega) hts.sm) rfl (fun gh => rfl) h32 ?_
            refine HJ.gy (fun gh => PR.fldP u88 rfl sz86 rfl (hts.sm (i := (k - 1)) (by omega))) rfl (fun gh => rfl) h32 ?_
            refine HJ.gy (fun gh => PR.loadHagg rfl (hts.mono (by omega)) (hts.sm (i := (k - 1)) (by omega)) (by rw [bytesC_length, (hts.wf _ (by omega)).mono.len]; exact ag86)) rfl (fun gh => rfl) h32 ?_
            refine HJ.gcall fn134 rfl (fun gh => rfl) h32 (fun gh => rfl) (fun w X hH => powerOf_c (hts.wf (k - 1) (by omega)).mono hH) ?_
            refine HJ.gy (fun gh => PR.fldA u88 rfl sz86 rfl) rfl (fun gh => rfl) h32 ?_
            refine HJ.gy (fun gh => PR.ldMono rfl At.z (hts.wf k (by omega)) ag86) rfl (fun gh => rfl) h32 ?_
            refine HJ.close 13 2 foll0 (by kernel_rfl) rfl rfl fun gh => ?_
            refine J.conv (us' := (30, _) :: (31, _) :: (32, _) :: (33, _) :: (34, _) :: (35, _) :: (36, _) :: (37, _) :: (38, _) :: (39, _) :: (40, _) :: (41, _) :: (42, _) :: _) (L' := _) rfl rfl ?_
            refine J.gcall fn134 rfl rfl h32 rfl rfl fun w hH => (powerOf_c (hts.wf k (by omega)).mono hH).mono ?_
            rintro _ w ⟨rfl, hH⟩
            refine ⟨_, rfl, fun a hF => J.of hF hH ?_⟩
            refine J.gcall fn141 rfl rfl h32 rfl rfl fun w hH => (compare_c (hts.wf (k - 1) (by omega)).mono.len (hts.wf k (by omega)).mono.len (hts.wf _ (by omega)).mono.small (hts.wf _ (by omega)).mono.small hH).mono ?_
            rintro _ w ⟨rfl, hH⟩
            refine ⟨_, rfl, fun a hF => J.of hF hH ?_⟩
            refine J.nil ?_
            refine EJ.still ?_
            refine JS.gy (PR.geq rfl rfl) rfl rfl rfl h32 ?_
            refine JS.op (PR.pickT rfl h32 rfl) rfl ?_
            refine JS.nil ?_
            refine EJ.thenN (hK15 ?_)
            refine CJ.condD rfl (fun h46 => ?_) (fun h46 => ?_)
            ·
              refine CJ.seq fun _ hK16 _ => ?_
              refine CJ.region ?_
              refine J.p (PR.assign rfl) rfl ?_
              refine J.nil ?_
              refine EJ.thenN (hK16 ?_)
              refine CJ.ret ?_
              refine EJ.inR ?_
              refine EJ.thenR ?_
              refine EJ.thenR ?_
              refine EJ.inR ?_
              refine EJ.thenR ?_
              refine EJ.ret1 rfl (Res.tmp rfl) fun w hH => ?_
              replace hH := hH.tail
              replace hH := hH.tail
              exact ⟨rb (isForm_bad (k := k) (by omega) (good_ord (by omega) (before_le h46))).symm, hH⟩
            ·
              refine CJ.skip ?_
              refine EJ.inN ?_
              refine EJ.thenN (hK9 ?_)
              refine CJ.region ?_
              refine J.p (PR.add rfl rfl (by first | exact nw _ (by omega) | rfl)) rfl ?_
              refine J.p (PR.move rfl) rfl ?_
              refine J.nil ?_
              refine EJ.thenN ?_
              refine EJ.drop .z ?_
              exact hAg0 (k + 1) ⟨by omega, upto hI.2 (good_yes (notf h24) (notf h29) (.inr (before_lt h46)))⟩ (by omega) 37 rfl rfl ⟨rfl, trivial⟩ rfl rfl
          ·
            try have h32p := of_decide_eq_false h32
            refine HJ.gn rfl (fun gh => rfl) h32 ?_
            refine HJ.gn rfl (fun gh => rfl) h32 ?_
            refine HJ.gn rfl (fun gh => rfl) h32 ?_
            refine HJ.gn rfl (fun gh => rfl) h32 ?_
            refine HJ.gn rfl (fun gh => rfl) h32 ?_
            refine HJ.gn rfl (fun gh => rfl) h32 ?_
            refine HJ.gn rfl (fun gh => rfl) h32 ?_
            refine HJ.gn rfl (fun gh => rfl) h32 ?_
            refine HJ.gn rfl (fun gh => rfl) h32 ?_
            refine HJ.gn rfl (fun gh => rfl) h32 ?_
            refine HJ.close 13 2 foll0 (by kernel_rfl) rfl rfl fun gh => ?_
            refine J.conv (us' := (30, _) :: (31, _) :: (32, _) :: (33, _) :: (34, _) :: (35, _) :: (36, _) :: (37, _) :: (38, _) :: (39, _) :: (40, _) :: (41, _) :: (42, _) :: _) (L' := _) rfl rfl ?_
            refine J.gn rfl rfl rfl h32 ?_
            refine J.gn rfl rfl rfl h32 ?_
            refine J.nil ?_
            refine EJ.still ?_
            refine JS.gn rfl rfl rfl h32 ?_
            refine JS.op (PR.pickF rfl h32 rfl) rfl ?_
            refine JS.nil ?_
            refine EJ.thenN (hK15 ?_)
            refine CJ.condF rfl ?_
            refine CJ.skip ?_
            refine EJ.inN ?_
            refine EJ.thenN (hK9 ?_)
            refine CJ.region ?_
            refine J.p (PR.add rfl rfl (by first | exact nw _ (by omega) | rfl)) rfl ?_
            refine J.p (PR.move rfl) rfl ?_
            refine J.nil ?_
            refine EJ.thenN ?_
            refine EJ.drop .z ?_
            exact hAg0 (k + 1) ⟨by omega, upto hI.2 (good_yes (notf h24) (notf h29) (.inl (by omega)))⟩ (by omega) 37 rfl rfl ⟨rfl, trivial⟩ rfl rfl
    ·
      refine CJ.exit ?_
      refine EJ.thenE ?_
      refine EJ.thenE ?_
      refine EJ.inE ?_
      refine EJ.thenN (hK5 ?_)
      refine CJ.seq fun _ hK17 _ => ?_
      refine CJ.region ?_
      refine J.p (PR.assign rfl) rfl ?_
      refine J.nil ?_
      refine EJ.thenN (hK17 ?_)
      refine CJ.ret ?_
      refine EJ.ret1 rfl (Res.tmp rfl) fun w hH => ?_
      replace hH := hH.tail
      exact ⟨rb ((isForm_good (fun j hj => hI.2 j (by omega))).trans (decide_eq_true (by omega))).symm, hH⟩
set_option maxHeartbeats 4000000 in
set_option maxRecDepth 10000 in
theorem l01Is_c {B : World} {H0 H : HP} {L : List SA} {w : World} {qds : Option Addr} {cds : Nat} {ds : List Int} {qts : Option Addr} {cts : Nat} {ts : List Term}  (hds : Ints H qds ds) (hts : Terms H qts ts) (hn : ds.length ≤ 1048576) (hp : ∀ j, j < ds.length → 0 ≤ ds.getD j 0) (hl : ts.length ≤ 9223372036854775807) (hH : Hp B H0 H L w) :
    Calls Try.prog 129 [.slice qds ds.length cds, .agg [.slice qts ts.length cts].toArray].toArray w fun e w' => e = .returned (.bool (isForm ds ts)) ∧ Hp B H0 H L w' := by
  refine CJ.enter Try.func129 rfl 51 rfl rfl [(0, .slice qds ds.length cds), (1, .agg [.slice qts ts.length cts].toArray)] rfl hH ?_
  clear hH
  refine CJ.seq fun _ hK1 _ => ?_
  refine CJ.region ?_
  refine J.box rfl rfl rfl fun g3 => ?_
  refine J.p (PR.assign rfl) rfl ?_
  refine J.nil ?_
  refine EJ.thenN (hK1 ?_)
  refine CJ.seq fun _ hK2 _ => ?_
  refine CJ.seq fun _ hK3 _ => ?_
  refine CJ.region ?_
  refine J.p (PR.assign rfl) rfl ?_
  refine J.nil ?_
  refine EJ.thenN (hK3 ?_)
  refine CJ.block ?_
  refine CJ.loopU (σ := Nat) (fun (k : Nat) => [(5, .int .i64 (k : Int))]) (fun (k : Nat) => H) (fun (k : Nat) => obj g3 (.cells [.slice qts ts.length cts].toArray 29 (0, 0)) :: L) (fun (k : Nat) => k ≤ ts.length ∧ ∀ j, j < k → goodAt ds ts j = true) (fun (k : Nat) => ts.length - k) 0 ⟨by omega, fun j hj => by omega⟩ ⟨rfl, trivial⟩ rfl rfl ?_
  rintro k hI _ hAg0
  have hk := hI.1
  refine CJ.seq fun _ hK4 _ => ?_
  refine CJ.seq fun _ hK5 _ => ?_
  refine CJ.region ?_
  refine J.p (PR.move rfl) rfl ?_
  refine J.p (PR.fldA u29 rfl sz27 rfl) rfl ?_
  refine J.p (PR.load rfl At.z rfl pl27) rfl ?_
  refine J.p (PR.lenSlice u27 rfl rfl) rfl ?_
  refine J.p (PR.lss rfl rfl) rfl ?_
  refine J.nil ?_
  refine EJ.thenN (hK5 ?_)
  refine CJ.condD rfl (fun hc11 => ?_) (fun hc11 => ?_)
  ·
    refine CJ.skip ?_
    refine EJ.thenN (hK4 ?_)
    refine CJ.seq fun _ hK6 _ => ?_
    refine CJ.block ?_
    refine CJ.seq fun _ hK7 _ => ?_
    refine CJ.region ?_
    refine J.p (PR.fldA u29 rfl sz27 rfl) rfl ?_
    refine J.p (PR.load rfl At.z rfl pl27) rfl ?_
    refine J.p (PR.move rfl) rfl ?_
    refine J.p (PR.idx u27 sz88 rfl rfl rfl (by omega) hts.sm) rfl ?_
    refine J.p (PR.loadHagg rfl (hts.cell _ (by omega)) (hts.sm (i := k) (by omega)) (by rw [Term.c_length (hts.wf _ (by omega))]; exact ag88)) rfl ?_
    refine J.alloc (cs := (default : Term).c) ze88 rfl fun g6 => ?_
    refine J.stTerm rfl rfl sz88 zero_wf (hts.wf k (by omega)) At.z ?_
    refine J.nil ?_
    refine EJ.thenN (hK7 ?_)
    refine CJ.seq fun _ hK8 _ => ?_
    refine CJ.head [[], [], [1], [0, 2], [3], [4], [5], [6, 5], [7, 5], [8, 5], [5, 9], [10], [11], [12, 11], [13, 11], [14], [15, 14], [14], [17, 14], [16, 18, 14], [19, 14], [20, 14], [14], [22, 14]] (by kernel_rfl) ?_
    refine HJ.op (fun gh => PR.move rfl) ?_
    refine HJ.op (fun gh => PR.fldA u88 rfl sz86 rfl) ?_
    refine HJ.op (fun gh => PR.ldMono rfl At.z (hts.wf k (by omega)) ag86) ?_
    refine HJ.call fn166 (fun gh => rfl) (fun w X hH => l01Mono_c hds (hts.wf k (by omega)).mono (by omega) hp hH) ?_
    refine HJ.op (fun gh => PR.not rfl) ?_
    refine HJ.op (fun gh => PR.move rfl) ?_
    refine HJ.splitB 5 rfl (fun h24 => ?_) (fun h24 => ?_)
    ·
      try have h24p := of_decide_eq_true h24
      refine HJ.gn rfl (fun gh => rfl) h24 ?_
      refine HJ.gn rfl (fun gh => rfl) h24 ?_
      refine HJ.gn rfl (fun gh => rfl) h24 ?_
      refine HJ.gn rfl (fun gh => rfl) h24 ?_
      refine HJ.op (fun gh => PR.pickT rfl h24 rfl) ?_
      refine HJ.op (fun gh => PR.move rfl) ?_
      refine HJ.gn rfl (fun gh => rfl) rfl ?_
      refine HJ.gn rfl (fun gh => rfl) rfl ?_
      refine HJ.gn rfl (fun gh => rfl) rfl ?_
      refine HJ.gu rfl (fun gh => rfl) ?_
      refine HJ.gu rfl (fun gh => rfl) ?_
      refine HJ.gu rfl (fun gh => rfl) ?_
      refine HJ.gu rfl (fun gh => rfl) ?_
      refine HJ.gu rfl (fun gh => rfl) ?_
      refine HJ.gu rfl (fun gh => rfl) ?_
      refine HJ.gu rfl (fun gh => rfl) ?_
      refine HJ.gu rfl (fun gh => rfl) ?_
      refine HJ.gu rfl (fun gh => rfl) ?_
      refine HJ.close 24 1 foll0 (by kernel_rfl) rfl rfl fun gh => ?_
      refine J.conv (us' := (19, _) :: (20, _) :: (21, _) :: (22, _) :: (23, _) :: (24, _) :: (25, _) :: (26, _) :: (27, _) :: (28, _) :: (29, _) :: (30, _) :: (31, _) :: (32, _) :: (33, _) :: (34, _) :: (35, _) :: (36, _) :: (37, _) :: (38, _) :: (39, _) :: (40, _) :: (41, _) :: (42, _) :: _) (L' := _) rfl rfl ?_
      refine J.gu rfl rfl rfl ?_
      refine J.nil ?_
      refine EJ.still ?_
      refine JS.gu rfl rfl rfl ?_
      refine JS.gn rfl rfl rfl rfl ?_
      refine JS.op (PR.pickT rfl rfl rfl) rfl ?_
      refine JS.nil ?_
      refine EJ.thenN (hK8 ?_)
      refine CJ.condT rfl ?_
      refine CJ.seq fun _ hK9 _ => ?_
      refine CJ.region ?_
      refine J.p (PR.assign rfl) rfl ?_
      refine J.nil ?_
      refine EJ.thenN (hK9 ?_)
      refine CJ.ret ?_
      refine EJ.inR ?_
      refine EJ.thenR ?_
      refine EJ.thenR ?_
      refine EJ.inR ?_
      refine EJ.thenR ?_
      refine EJ.ret1 rfl (Res.tmp rfl) fun w hH => ?_
      replace hH := hH.tail
      replace hH := hH.tail
      exact ⟨rb (isForm_bad (k := k) (by omega) (good_mono (nott h24))).symm, hH⟩
    ·
      try have h24p := of_decide_eq_false h24
      refine HJ.gy (fun gh => PR.fldA u88 rfl sz2 rfl) rfl (fun gh => rfl) h24 ?_
      refine HJ.gy (fun gh => PR.ldFac rfl At.z (hts.wf k (by omega)) pl2) rfl (fun gh => rfl) h24 ?_
      refine HJ.gcall fn83 rfl (fun gh => rfl) h24 (fun gh => rfl) (fun w X hH => l01In_c  hH) ?_
      refine HJ.gy (fun gh => PR.not rfl) rfl (fun gh => rfl) h24 ?_
      refine HJ.op (fun gh => PR.pickF rfl h24 rfl) ?_
      refine HJ.op (fun gh => PR.move rfl) ?_
      refine HJ.splitB 11 rfl (fun h30 => ?_) (fun h30 => ?_)
      ·
        try have h30p := of_decide_eq_true h30
        refine HJ.gn rfl (fun gh => rfl) h30 ?_
        refine HJ.gn rfl (fun gh => rfl) h30 ?_
        refine HJ.gn rfl (fun gh => rfl) h30 ?_
        refine HJ.gu rfl (fun gh => rfl) ?_
        refine HJ.gu rfl (fun gh => rfl) ?_
        refine HJ.gu rfl (fun gh => rfl) ?_
        refine HJ.gu rfl (fun gh => rfl) ?_
        refine HJ.gu rfl (fun gh => rfl) ?_
        refine HJ.gu rfl (fun gh => rfl) ?_
        refine HJ.gu rfl (fun gh => rfl) ?_
        refine HJ.gu rfl (fun gh => rfl) ?_
        refine HJ.gu rfl (fun gh => rfl) ?_
        refine HJ.close 24 1 foll0 (by kernel_rfl) rfl rfl fun gh => ?_
        refine J.conv (us' := (19, _) :: (20, _) :: (21, _) :: (22, _) :: (23, _) :: (24, _) :: (25, _) :: (26, _) :: (27, _) :: (28, _) :: (29, _) :: (30, _) :: (31, _) :: (32, _) :: (33, _) :: (34, _) :: (35, _) :: (36, _) :: (37, _) :: (38, _) :: (39, _) :: (40, _) :: (41, _) :: (42, _) :: _) (L' := _) rfl rfl ?_
        refine J.gu rfl rfl rfl ?_
        refine J.nil ?_
        refine EJ.still ?_
        refine JS.gu rfl rfl rfl ?_
        refine JS.gn rfl rfl rfl h30 ?_
        refine JS.op (PR.pickT rfl h30 rfl) rfl ?_
        refine JS.nil ?_
        refine EJ.thenN (hK8 ?_)
        refine CJ.condT rfl ?_
        refine CJ.seq fun _ hK10 _ => ?_
        refine CJ.region ?_
        refine J.p (PR.assign rfl) rfl ?_
        refine J.nil ?_
        refine EJ.thenN (hK10 ?_)
        refine CJ.ret ?_
        refine EJ.inR ?_
        refine EJ.thenR ?_
        refine EJ.thenR ?_
        refine EJ.inR ?_
        refine EJ.thenR ?_
        refine EJ.ret1 rfl (Res.tmp rfl) fun w hH => ?_
        replace hH := hH.tail
        replace hH := hH.tail
        exact ⟨rb (isForm_bad (k := k) (by omega) (good_fac (nott h30))).symm, hH⟩
      ·
        try have h30p := of_decide_eq_false h30
        refine HJ.gy (fun gh => PR.move rfl) rfl (fun gh => rfl) h30 ?_
        refine HJ.gy (fun gh => PR.gtr rfl rfl) rfl (fun gh => rfl) h30 ?_
        refine HJ.gy (fun gh => PR.move rfl) rfl (fun gh => rfl) h30 ?_
        refine HJ.splitB 14 rfl (fun h33 => ?_) (fun h33 => ?_)
        ·
          try have h33p := of_decide_eq_true h33
          refine HJ.gy (fun gh => PR.fldA u29 rfl sz27 rfl) rfl (fun gh => rfl) h33 ?_
          refine HJ.gy (fun gh => PR.load rfl (.s .z) rfl pl27) rfl (fun gh => rfl) h33 ?_
          refine HJ.gy (fun gh => PR.move rfl) rfl (fun gh => rfl) h33 ?_
          refine HJ.gy (fun gh => PR.sub rfl rfl (by first | exact nw _ (by omega) | rfl)) rfl (fun gh => rfl) h33 ?_
          refine HJ.gy (fun gh => PR.idx (i' := (k - 1)) u27 sz88 rfl rfl (by omega) (by omega) hts.sm) rfl (fun gh => rfl) h33 ?_
          refine HJ.gy (fun gh => PR.fldP u88 rfl sz86 rfl (hts.sm (i := (k - 1)) (by omega))) rfl (fun gh => rfl) h33 ?_
          refine HJ.gy (fun gh => PR.loadHagg rfl (hts.mono (by omega)) (hts.sm (i := (k - 1)) (by omega)) (by rw [bytesC_length, (hts.wf _ (by omega)).mono.len]; exact ag86)) rfl (fun gh => rfl) h33 ?_
          refine HJ.gy (fun gh => PR.fldA u88 rfl sz86 rfl) rfl (fun gh => rfl) h33 ?_
          refine HJ.gy (fun gh => PR.ldMono rfl At.z (hts.wf k (by omega)) ag86) rfl (fun gh => rfl) h33 ?_
          refine HJ.close 24 1 foll0 (by kernel_rfl) rfl rfl fun gh => ?_
          refine J.conv (us' := (19, _) :: (20, _) :: (21, _) :: (22, _) :: (23, _) :: (24, _) :: (25, _) :: (26, _) :: (27, _) :: (28, _) :: (29, _) :: (30, _) :: (31, _) :: (32, _) :: (33, _) :: (34, _) :: (35, _) :: (36, _) :: (37, _) :: (38, _) :: (39, _) :: (40, _) :: (41, _) :: (42, _) :: _) (L' := _) rfl rfl ?_
          refine J.gcall fn167 rfl rfl h33 rfl rfl fun w hH => (l01Before_c (hts.wf (k - 1) (by omega)).mono (hts.wf k (by omega)).mono hH).mono ?_
          rintro _ w ⟨rfl, hH⟩
          refine ⟨_, rfl, fun a hF => J.of hF hH ?_⟩
          refine J.nil ?_
          refine EJ.still ?_
          refine JS.gy (PR.not rfl) rfl rfl rfl h33 ?_
          refine JS.gy (PR.pickT rfl h33 rfl) rfl rfl rfl h30 ?_
          refine JS.op (PR.pickF rfl h30 rfl) rfl ?_
          refine JS.nil ?_
          refine EJ.thenN (hK8 ?_)
          refine CJ.cond rfl (fun h46 => ?_) (fun h46 => ?_)
          ·
            refine CJ.seq fun _ hK11 _ => ?_
            refine CJ.region ?_
            refine J.p (PR.assign rfl) rfl ?_
            refine J.nil ?_
            refine EJ.thenN (hK11 ?_)
            refine CJ.ret ?_
            refine EJ.inR ?_
            refine EJ.thenR ?_
            refine EJ.thenR ?_
            refine EJ.inR ?_
            refine EJ.thenR ?_
            refine EJ.ret1 rfl (Res.tmp rfl) fun w hH => ?_
            replace hH := hH.tail
            replace hH := hH.tail
            exact ⟨rb (isForm_bad (k := k) (by omega) (good_ord (by omega) (nott h46))).symm, hH⟩
          ·
            refine CJ.skip ?_
            refine EJ.inN ?_
            refine EJ.thenN (hK6 ?_)
            refine CJ.region ?_
            refine J.p (PR.move rfl) rfl ?_
            refine J.p (PR.add rfl rfl (by first | exact nw _ (by omega) | rfl)) rfl ?_
            refine J.p (PR.assign rfl) rfl ?_
            refine J.nil ?_
            refine EJ.thenN ?_
            refine EJ.drop .z ?_
            exact hAg0 (k + 1) ⟨by omega, upto hI.2 (good_yes (notf h24) (notf h30) (.inr (notf h46)))⟩ (by omega) 43 rfl rfl ⟨rfl, trivial⟩ rfl rfl
        ·
          try have h33p := of_decide_eq_false h33
          refine HJ.gn rfl (fun gh => rfl) h33 ?_
          refine HJ.gn rfl (fun gh => rfl) h33 ?_
          refine HJ.gn rfl (fun gh => rfl) h33 ?_
          refine HJ.gn rfl (fun gh => rfl) h33 ?_
          refine HJ.gn rfl (fun gh => rfl) h33 ?_
          refine HJ.gn rfl (fun gh => rfl) h33 ?_
          refine HJ.gn rfl (fun gh => rfl) h33 ?_
          refine HJ.gn rfl (fun gh => rfl) h33 ?_
          refine HJ.gn rfl (fun gh => rfl) h33 ?_
          refine HJ.close 24 1 foll0 (by kernel_rfl) rfl rfl fun gh => ?_
          refine J.conv (us' := (19, _) :: (20, _) :: (21, _) :: (22, _) :: (23, _) :: (24, _) :: (25, _) :: (26, _) :: (27, _) :: (28, _) :: (29, _) :: (30, _) :: (31, _) :: (32, _) :: (33, _) :: (34, _) :: (35, _) :: (36, _) :: (37, _) :: (38, _) :: (39, _) :: (40, _) :: (41, _) :: (42, _) :: _) (L' := _) rfl rfl ?_
          refine J.gn rfl rfl rfl h33 ?_
          refine J.nil ?_
          refine EJ.still ?_
          refine JS.gn rfl rfl rfl h33 ?_
          refine JS.gy (PR.pickF rfl h33 rfl) rfl rfl rfl h30 ?_
          refine JS.op (PR.pickF rfl h30 rfl) rfl ?_
          refine JS.nil ?_
          refine EJ.thenN (hK8 ?_)
          refine CJ.condF rfl ?_
          refine CJ.skip ?_
          refine EJ.inN ?_
          refine EJ.thenN (hK6 ?_)
          refine CJ.region ?_
          refine J.p (PR.move rfl) rfl ?_
          refine J.p (PR.add rfl rfl (by first | exact nw _ (by omega) | rfl)) rfl ?_
          refine J.p (PR.assign rfl) rfl ?_
          refine J.nil ?_
          refine EJ.thenN ?_
          refine EJ.drop .z ?_
          exact hAg0 (k + 1) ⟨by omega, upto hI.2 (good_yes (notf h24) (notf h30) (.inl (by omega)))⟩ (by omega) 43 rfl rfl ⟨rfl, trivial⟩ rfl rfl
  ·
    refine CJ.exit ?_
    refine EJ.thenE ?_
    refine EJ.thenE ?_
    refine EJ.inE ?_
    refine EJ.thenN (hK2 ?_)
    refine CJ.seq fun _ hK12 _ => ?_
    refine CJ.region ?_
    refine J.p (PR.fldA u29 rfl sz27 rfl) rfl ?_
    refine J.p (PR.load rfl At.z rfl pl27) rfl ?_
    refine J.p (PR.lenSlice u27 rfl rfl) rfl ?_
    refine J.p (PR.leq rfl rfl) rfl ?_
    refine J.p (PR.assign rfl) rfl ?_
    refine J.nil ?_
    refine EJ.thenN (hK12 ?_)
    refine CJ.ret ?_
    refine EJ.ret1 rfl (Res.tmp rfl) fun w hH => ?_
    replace hH := hH.tail
    exact ⟨rb (isForm_good (fun j hj => hI.2 j (by omega))).symm, hH⟩
end Go.Proofs.Ytpojpokldncglaa.G
namespace Go.Proofs.Ytpojpokldncglaa.G
open Go Go.RowKit
namespace Wf
theorem u27 : Try.prog.underlying 27 = some (TypeDesc.slice 88) := by kernel_rfl
theorem u29 : Try.prog.underlying 29 = some (TypeDesc.struct #[{ name := "Terms", type := 27, offset := 0, embedded := false, tag := "", pkgPath := "", byteOffset := 0 }]) := by kernel_rfl
theorem u86 : Try.prog.underlying 86 = some (TypeDesc.array 8 5) := by kernel_rfl
theorem u88 : Try.prog.underlying 88 = some (TypeDesc.struct #[{ name := "Monomial", type := 86, offset := 0, embedded := false, tag := "", pkgPath := "", byteOffset := 0 }, { name := "Factor", type := 2, offset := 8, embedded := false, tag := "", pkgPath := "", byteOffset := 8 }]) := by kernel_rfl
theorem sz27 : Size Try.prog 27 1 := by unfold Size; kernel_rfl
theorem sz86 : Size Try.prog 86 8 := by unfold Size; kernel_rfl
theorem sz88 : Size Try.prog 88 9 := by unfold Size; kernel_rfl
theorem ze88 : Zero Try.prog 88 [.int .u8 0, .int .u8 0, .int .u8 0, .int .u8 0, .int .u8 0, .int .u8 0, .int .u8 0, .int .u8 0, .int .i64 0] := by unfold Zero; kernel_rfl
theorem pl27 : Plain Try.prog 27 := ⟨_, u27, rfl⟩
theorem ag86 : Agg Try.prog 86 8 := ⟨_, u86, rfl, by kernel_rfl⟩
theorem ag88 : Agg Try.prog 88 9 := ⟨_, u88, rfl, by kernel_rfl⟩
theorem fn134 : Fn Try.prog 134 := ⟨_, Try.func134, by kernel_rfl, rfl⟩
theorem fn72 : Fn Try.prog 72 := ⟨_, Try.func72, by kernel_rfl, rfl⟩
theorem fn79 : Fn Try.prog 79 := ⟨_, Try.func79, by kernel_rfl, rfl⟩
end Wf
open Wf
def wd (ds : List Int) (ts : List Term) (i : Nat) : Int := wsum ds (tm ts i).mono ds.length
theorem wd_bd {ds : List Int} {ts : List Term} {i : Nat} (hn : ds.length ≤ 8) (hd : ∀ j, 0 ≤ ds.getD j 0 ∧ ds.getD j 0 ≤ 12) (hw : Mono (tm ts i).mono) : 0 ≤ wd ds ts i ∧ wd ds ts i ≤ 24480 := by
  have h := wsum_bd hd hw.bd ds.length
  unfold wd
  omega
def outAt (ds : List Int) (ts : List Term) (k : Nat) : Int := if k = 0 then -1 else wd ds ts 0
theorem outAt_pos {ds : List Int} {ts : List Term} {k : Nat} (h : outAt ds ts k ≥ 0) : 0 < k ∧ outAt ds ts k = wd ds ts 0 := by
  unfold outAt at h ⊢
  by_cases e : k = 0
  · rw [if_pos e] at h; omega
  · exact ⟨by omega, if_neg e⟩
theorem outAt_neg {ds : List Int} {ts : List Term} {k : Nat} (h0 : 0 ≤ wd ds ts 0) (h : ¬ outAt ds ts k ≥ 0) : k = 0 := by
  unfold outAt at h
  by_cases e : k = 0
  · exact e
  · rw [if_neg e] at h; omega
theorem outAt_succ {ds : List Int} {ts : List Term} {k : Nat} (h : wd ds ts k = wd ds ts 0) : wd ds ts k = outAt ds ts (k + 1) := by unfold outAt; rw [if_neg (by omega), h]
def homog (ds : List Int) (ts : List Term) : Bool := (List.range ts.length).all fun i => decide (wd ds ts i = wd ds ts 0)
def degF (ds : List Int) (ts : List Term) : Int := if homog ds ts then outAt ds ts ts.length else 0
theorem homog_no {ds : List Int} {ts : List Term} {k : Nat} (hk : k < ts.length) (h : wd ds ts k ≠ wd ds ts 0) : homog ds ts = false := by
  unfold homog
  exact List.all_eq_false.2 ⟨k, by simpa using hk, by simpa using h⟩
theorem homog_yes {ds : List Int} {ts : List Term} (h : ∀ j, j < ts.length → wd ds ts j = wd ds ts 0) : homog ds ts = true := by
  unfold homog
  exact List.all_eq_true.2 fun j hj => by simpa using h j (by simpa using hj)
theorem degRet {ds : List Int} {ts : List Term} {v : Int} {b : Bool} (hb : homog ds ts = b) (hv : v = if b then outAt ds ts ts.length else 0) : Ending.returned (.tuple #[.int .i64 v, .bool b]) = .returned (.tuple #[.int .i64 (degF ds ts), .bool (homog ds ts)]) := by
  rw [hv, degF, hb]
set_option maxRecDepth 10000 in
theorem degreeOf_c {B : World} {H0 H : HP} {L : List SA} {w : World} {qds : Option Addr} {cds : Nat} {ds : List Int} {qts : Option Addr} {cts : Nat} {ts : List Term}  (hds : Ints H qds ds) (hts : Terms H qts ts) (hn : ds.length ≤ 8) (hd : ∀ j, 0 ≤ ds.getD j 0 ∧ ds.getD j 0 ≤ 12) (hl : ts.length ≤ 9223372036854775807) (hH : Hp B H0 H L w) :
    Calls Try.prog 142 [.slice qds ds.length cds, .agg [.slice qts ts.length cts].toArray].toArray w fun e w' => e = .returned (.tuple #[.int .i64 (degF ds ts), .bool (homog ds ts)]) ∧ Hp B H0 H L w' := by
  refine CJ.enter Try.func142 rfl 32 rfl rfl [(0, .slice qds ds.length cds), (1, .agg [.slice qts ts.length cts].toArray)] rfl hH ?_
  clear hH
  refine CJ.seq fun _ hK1 _ => ?_
  refine CJ.region ?_
  refine J.box rfl rfl rfl fun g3 => ?_
  refine J.p (PR.assign rfl) rfl ?_
  refine J.p (PR.assign rfl) rfl ?_
  refine J.nil ?_
  refine EJ.thenN (hK1 ?_)
  refine CJ.seq fun _ hK2 _ => ?_
  refine CJ.region ?_
  refine J.p (PR.assign rfl) rfl ?_
  refine J.nil ?_
  refine EJ.thenN (hK2 ?_)
  refine CJ.seq fun _ hK3 _ => ?_
  refine CJ.seq fun _ hK4 _ => ?_
  refine CJ.region ?_
  refine J.p (PR.fldA u29 rfl sz27 rfl) rfl ?_
  refine J.p (PR.load rfl At.z rfl pl27) rfl ?_
  refine J.p (PR.lenSlice u27 rfl rfl) rfl ?_
  refine J.p (PR.move rfl) rfl ?_
  refine J.nil ?_
  refine EJ.thenN (hK4 ?_)
  refine CJ.block ?_
  refine CJ.loopU (σ := Nat) (fun (k : Nat) => [(13, .int .i64 (k : Int)), (6, .int .i64 (outAt ds ts k))]) (fun (k : Nat) => H) (fun (k : Nat) => obj g3 (.cells [.slice qts ts.length cts].toArray 29 (0, 0)) :: L) (fun (k : Nat) => k ≤ ts.length ∧ ∀ j, j < k → wd ds ts j = wd ds ts 0) (fun (k : Nat) => ts.length - k) 0 ⟨by omega, fun j hj => by omega⟩ ⟨rfl, ⟨rfl, trivial⟩⟩ rfl rfl ?_
  rintro k hI _ hAg0
  have hk := hI.1
  refine CJ.seq fun _ hK5 _ => ?_
  refine CJ.region ?_
  refine J.p (PR.lss rfl rfl) rfl ?_
  refine J.nil ?_
  refine EJ.thenN (hK5 ?_)
  refine CJ.seq fun _ hK6 _ => ?_
  refine CJ.condD rfl (fun hc14 => ?_) (fun hc14 => ?_)
  ·
    refine CJ.skip ?_
    refine EJ.thenN (hK6 ?_)
    refine CJ.seq fun _ hK7 _ => ?_
    refine CJ.block ?_
    refine CJ.seq fun _ hK8 _ => ?_
    refine CJ.region ?_
    refine J.p (PR.idx u27 sz88 rfl rfl rfl (by omega) hts.sm) rfl ?_
    refine J.p (PR.loadHagg rfl (hts.cell _ (by omega)) (hts.sm (i := k) (by omega)) (by rw [Term.c_length (hts.wf _ (by omega))]; exact ag88)) rfl ?_
    refine J.alloc (cs := (default : Term).c) ze88 rfl fun g8 => ?_
    refine J.stTerm rfl rfl sz88 zero_wf (hts.wf k (by omega)) At.z ?_
    refine J.nil ?_
    refine EJ.thenN (hK8 ?_)
    refine CJ.seq fun _ hK9 _ => ?_
    refine CJ.region ?_
    refine J.p (PR.fldA u88 rfl sz86 rfl) rfl ?_
    refine J.p (PR.ldMono rfl At.z (hts.wf k (by omega)) ag86) rfl ?_
    refine J.call fn134 rfl rfl fun w hH => (powerOf_c (hts.wf k (by omega)).mono hH).mono ?_
    rintro _ w ⟨rfl, hH⟩
    refine ⟨_, rfl, fun a hF => J.of hF hH ?_⟩
    refine J.p (PR.move rfl) rfl ?_
    refine J.call fn79 rfl rfl fun w hH => (degree_c (hts.wf k (by omega)).mono.len hds hn hd (hts.wf k (by omega)).mono.small hH).mono ?_
    rintro _ w ⟨rfl, hH⟩
    refine ⟨_, rfl, fun a hF => J.of hF hH ?_⟩
    refine J.p (PR.assign rfl) rfl ?_
    refine J.nil ?_
    refine EJ.thenN (hK9 ?_)
    refine CJ.seq fun _ hK10 _ => ?_
    refine CJ.seq fun _ hK11 _ => ?_
    refine CJ.region ?_
    refine J.p (PR.move rfl) rfl ?_
    refine J.p (PR.geq rfl rfl) rfl ?_
    refine J.p (PR.move rfl) rfl ?_
    refine J.splitB (jd := 24) rfl (fun h24 => ?_) (fun h24 => ?_)
    ·
      try have h24p := of_decide_eq_true h24
      refine J.gy (PR.move rfl) rfl rfl rfl h24 ?_
      refine J.gy (PR.move rfl) rfl rfl rfl h24 ?_
      refine J.gy (PR.neq rfl rfl) rfl rfl rfl h24 ?_
      refine J.p (PR.pickT rfl h24 rfl) rfl ?_
      refine J.nil ?_
      refine EJ.thenN (hK11 ?_)
      refine CJ.condD rfl (fun h28 => ?_) (fun h28 => ?_)
      ·
        refine CJ.seq fun _ hK12 _ => ?_
        refine CJ.region ?_
        refine J.p (PR.assign rfl) rfl ?_
        refine J.p (PR.assign rfl) rfl ?_
        refine J.nil ?_
        refine EJ.thenN (hK12 ?_)
        refine CJ.ret ?_
        refine EJ.thenR ?_
        refine EJ.inR ?_
        refine EJ.thenR ?_
        refine EJ.thenR ?_
        refine EJ.inR ?_
        refine EJ.thenR ?_
        refine EJ.ret2 rfl (Res.tmp rfl) (Res.tmp rfl) fun w hH => ?_
        replace hH := hH.tail
        replace hH := hH.tail
        exact ⟨degRet (homog_no (k := k) (by omega) (fun e => h28 (e.trans (outAt_pos h24p).2.symm))) rfl, hH⟩
      ·
        have h28x : wd ds ts k = wd ds ts 0 := (Decidable.not_not.1 h28).trans (outAt_pos h24p).2
        refine CJ.skip ?_
        refine EJ.thenN (hK10 ?_)
        refine CJ.region ?_
        refine J.p (PR.move rfl) rfl ?_
        refine J.p (PR.assign rfl) rfl ?_
        refine J.nil ?_
        refine EJ.inN ?_
        refine EJ.thenN (hK7 ?_)
        refine CJ.region ?_
        refine J.p (PR.add rfl rfl (by first | exact nw _ (by omega) | rfl)) rfl ?_
        refine J.p (PR.move rfl) rfl ?_
        refine J.nil ?_
        refine EJ.thenN ?_
        refine EJ.drop .z ?_
        exact hAg0 (k + 1) ⟨by omega, upto hI.2 h28x⟩ (by omega) 23 rfl rfl ⟨rfl, ⟨(vi (outAt_succ (h28x))), trivial⟩⟩ rfl rfl
    ·
      try have h24p := of_decide_eq_false h24
      refine J.gn rfl rfl rfl h24 ?_
      refine J.gn rfl rfl rfl h24 ?_
      refine J.gn rfl rfl rfl h24 ?_
      refine J.p (PR.pickF rfl h24 rfl) rfl ?_
      refine J.nil ?_
      refine EJ.thenN (hK11 ?_)
      refine CJ.condF rfl ?_
      refine CJ.skip ?_
      refine EJ.thenN (hK10 ?_)
      refine CJ.region ?_
      refine J.p (PR.move rfl) rfl ?_
      refine J.p (PR.assign rfl) rfl ?_
      refine J.nil ?_
      refine EJ.inN ?_
      refine EJ.thenN (hK7 ?_)
      refine CJ.region ?_
      refine J.p (PR.add rfl rfl (by first | exact nw _ (by omega) | rfl)) rfl ?_
      refine J.p (PR.move rfl) rfl ?_
      refine J.nil ?_
      refine EJ.thenN ?_
      refine EJ.drop .z ?_
      exact hAg0 (k + 1) ⟨by omega, upto hI.2 (congrArg (wd ds ts) (outAt_neg (wd_bd hn hd (hts.wf 0 (by omega)).mono).1 h24p))⟩ (by omega) 23 rfl rfl ⟨rfl, ⟨(vi (outAt_succ ((congrArg (wd ds ts) (outAt_neg (wd_bd hn hd (hts.wf 0 (by omega)).mono).1 h24p))))), trivial⟩⟩ rfl rfl
  ·
    refine CJ.exit ?_
    refine EJ.thenE ?_
    refine EJ.thenE ?_
    refine EJ.inE ?_
    refine EJ.thenN (hK3 ?_)
    refine CJ.seq fun _ hK13 _ => ?_
    refine CJ.region ?_
    refine J.p (PR.move rfl) rfl ?_
    refine J.p (PR.assign rfl) rfl ?_
    refine J.p (PR.assign rfl) rfl ?_
    refine J.nil ?_
    refine EJ.thenN (hK13 ?_)
    refine CJ.ret ?_
    refine EJ.ret2 rfl (Res.tmp rfl) (Res.tmp rfl) fun w hH => ?_
    replace hH := hH.tail
    obtain rfl : k = ts.length := by omega
    exact ⟨degRet (homog_yes hI.2) rfl, hH⟩
set_option maxRecDepth 10000 in
theorem l01Degree_c {B : World} {H0 H : HP} {L : List SA} {w : World} {qds : Option Addr} {cds : Nat} {ds : List Int} {qts : Option Addr} {cts : Nat} {ts : List Term}  (hds : Ints H qds ds) (hts : Terms H qts ts) (hn : ds.length ≤ 8) (hd : ∀ j, 0 ≤ ds.getD j 0 ∧ ds.getD j 0 ≤ 12) (hl : ts.length ≤ 9223372036854775807) (hH : Hp B H0 H L w) :
    Calls Try.prog 119 [.slice qds ds.length cds, .agg [.slice qts ts.length cts].toArray].toArray w fun e w' => e = .returned (.tuple #[.int .i64 (degF ds ts), .bool (homog ds ts)]) ∧ Hp B H0 H L w' := by
  refine CJ.enter Try.func119 rfl 37 rfl rfl [(0, .slice qds ds.length cds), (1, .agg [.slice qts ts.length cts].toArray)] rfl hH ?_
  clear hH
  refine CJ.seq fun _ hK1 _ => ?_
  refine CJ.region ?_
  refine J.box rfl rfl rfl fun g3 => ?_
  refine J.p (PR.assign rfl) rfl ?_
  refine J.p (PR.assign rfl) rfl ?_
  refine J.nil ?_
  refine EJ.thenN (hK1 ?_)
  refine CJ.seq fun _ hK2 _ => ?_
  refine CJ.seq fun _ hK3 _ => ?_
  refine CJ.region ?_
  refine J.p (PR.fldA u29 rfl sz27 rfl) rfl ?_
  refine J.p (PR.load rfl At.z rfl pl27) rfl ?_
  refine J.p (PR.lenSlice u27 rfl rfl) rfl ?_
  refine J.p (PR.eql rfl rfl) rfl ?_
  refine J.nil ?_
  refine EJ.thenN (hK3 ?_)
  refine CJ.condD rfl (fun h11 => ?_) (fun h11 => ?_)
  ·
    refine CJ.seq fun _ hK4 _ => ?_
    refine CJ.region ?_
    refine J.p (PR.assign rfl) rfl ?_
    refine J.p (PR.assign rfl) rfl ?_
    refine J.nil ?_
    refine EJ.thenN (hK4 ?_)
    refine CJ.ret ?_
    refine EJ.thenR ?_
    refine EJ.ret2 rfl (Res.tmp rfl) (Res.tmp rfl) fun w hH => ?_
    replace hH := hH.tail
    exact ⟨degRet (homog_yes (fun j hj => by omega)) (by rw [if_pos rfl]; unfold outAt; rw [if_pos (by omega)]), hH⟩
  ·
    refine CJ.skip ?_
    refine EJ.thenN (hK2 ?_)
    refine CJ.seq fun _ hK5 _ => ?_
    refine CJ.region ?_
    refine J.p (PR.move rfl) rfl ?_
    refine J.p (PR.fldA u29 rfl sz27 rfl) rfl ?_
    refine J.p (PR.load rfl At.z rfl pl27) rfl ?_
    refine J.p (PR.idx (i' := 0) u27 sz88 rfl rfl rfl (by omega) hts.sm) rfl ?_
    refine J.p (PR.fldP u88 rfl sz86 rfl (hts.sm (i := 0) (by omega))) rfl ?_
    refine J.p (PR.loadHagg rfl (hts.mono (by omega)) (hts.sm (i := 0) (by omega)) (by rw [bytesC_length, (hts.wf _ (by omega)).mono.len]; exact ag86)) rfl ?_
    refine J.call fn72 rfl rfl fun w hH => (l01Weight_c hds (hts.wf 0 (by omega)).mono hn hd hH).mono ?_
    rintro _ w ⟨rfl, hH⟩
    refine ⟨_, rfl, fun a hF => J.of hF hH ?_⟩
    refine J.p (PR.assign rfl) rfl ?_
    refine J.nil ?_
    refine EJ.thenN (hK5 ?_)
    refine CJ.seq fun _ hK6 _ => ?_
    refine CJ.seq fun _ hK7 _ => ?_
    refine CJ.region ?_
    refine J.p (PR.assign rfl) rfl ?_
    refine J.nil ?_
    refine EJ.thenN (hK7 ?_)
    refine CJ.block ?_
    refine CJ.loopU (σ := Nat) (fun (k : Nat) => [(7, .int .i64 (k : Int))]) (fun (k : Nat) => H) (fun (k : Nat) => obj g3 (.cells [.slice qts ts.length cts].toArray 29 (0, 0)) :: L) (fun (k : Nat) => 1 ≤ k ∧ k ≤ ts.length ∧ ∀ j, j < k → wd ds ts j = wd ds ts 0) (fun (k : Nat) => ts.length - k) 1 ⟨by omega, by omega, fun j hj => by rw [show j = 0 by omega]⟩ ⟨rfl, trivial⟩ rfl rfl ?_
    rintro k hI _ hAg0
    have hk := hI.2.1
    refine CJ.seq fun _ hK8 _ => ?_
    refine CJ.seq fun _ hK9 _ => ?_
    refine CJ.region ?_
    refine J.p (PR.move rfl) rfl ?_
    refine J.p (PR.fldA u29 rfl sz27 rfl) rfl ?_
    refine J.p (PR.load rfl At.z rfl pl27) rfl ?_
    refine J.p (PR.lenSlice u27 rfl rfl) rfl ?_
    refine J.p (PR.lss rfl rfl) rfl ?_
    refine J.nil ?_
    refine EJ.thenN (hK9 ?_)
    refine CJ.condD rfl (fun hc23 => ?_) (fun hc23 => ?_)
    ·
      refine CJ.skip ?_
      refine EJ.thenN (hK8 ?_)
      refine CJ.seq fun _ hK10 _ => ?_
      refine CJ.block ?_
      refine CJ.seq fun _ hK11 _ => ?_
      refine CJ.region ?_
      refine J.p (PR.move rfl) rfl ?_
      refine J.p (PR.fldA u29 rfl sz27 rfl) rfl ?_
      refine J.p (PR.load rfl At.z rfl pl27) rfl ?_
      refine J.p (PR.move rfl) rfl ?_
      refine J.p (PR.idx u27 sz88 rfl rfl rfl (by omega) hts.sm) rfl ?_
      refine J.p (PR.fldP u88 rfl sz86 rfl (hts.sm (i := k) (by omega))) rfl ?_
      refine J.p (PR.loadHagg rfl (hts.mono (by omega)) (hts.sm (i := k) (by omega)) (by rw [bytesC_length, (hts.wf _ (by omega)).mono.len]; exact ag86)) rfl ?_
      refine J.call fn72 rfl rfl fun w hH => (l01Weight_c hds (hts.wf k (by omega)).mono hn hd hH).mono ?_
      rintro _ w ⟨rfl, hH⟩
      refine ⟨_, rfl, fun a hF => J.of hF hH ?_⟩
      refine J.p (PR.move rfl) rfl ?_
      refine J.p (PR.neq rfl rfl) rfl ?_
      refine J.nil ?_
      refine EJ.thenN (hK11 ?_)
      refine CJ.condD rfl (fun h35 => ?_) (fun h35 => ?_)
      ·
        refine CJ.seq fun _ hK12 _ => ?_
        refine CJ.region ?_
        refine J.p (PR.assign rfl) rfl ?_
        refine J.p (PR.assign rfl) rfl ?_
        refine J.nil ?_
        refine EJ.thenN (hK12 ?_)
        refine CJ.ret ?_
        refine EJ.inR ?_
        refine EJ.thenR ?_
        refine EJ.thenR ?_
        refine EJ.inR ?_
        refine EJ.thenR ?_
        refine EJ.ret2 rfl (Res.tmp rfl) (Res.tmp rfl) fun w hH => ?_
        replace hH := hH.tail
        exact ⟨degRet (homog_no (k := k) (by omega) h35) rfl, hH⟩
      ·
        refine CJ.skip ?_
        refine EJ.inN ?_
        refine EJ.thenN (hK10 ?_)
        refine CJ.region ?_
        refine J.p (PR.move rfl) rfl ?_
        refine J.p (PR.add rfl rfl (by first | exact nw _ (by omega) | rfl)) rfl ?_
        refine J.p (PR.assign rfl) rfl ?_
        refine J.nil ?_
        refine EJ.thenN ?_
        exact hAg0 (k + 1) ⟨by omega, by omega, upto hI.2.2 (Decidable.not_not.1 h35)⟩ (by omega) 19 rfl rfl ⟨rfl, trivial⟩ rfl rfl
    ·
      refine CJ.exit ?_
      refine EJ.thenE ?_
      refine EJ.thenE ?_
      refine EJ.inE ?_
      refine EJ.thenN (hK6 ?_)
      refine CJ.seq fun _ hK13 _ => ?_
      refine CJ.region ?_
      refine J.p (PR.move rfl) rfl ?_
      refine J.p (PR.assign rfl) rfl ?_
      refine J.p (PR.assign rfl) rfl ?_
      refine J.nil ?_
      refine EJ.thenN (hK13 ?_)
      refine CJ.ret ?_
      refine EJ.ret2 rfl (Res.tmp rfl) (Res.tmp rfl) fun w hH => ?_
      replace hH := hH.tail
      obtain rfl : k = ts.length := by omega
      exact ⟨degRet (homog_yes hI.2.2) (by rw [if_pos rfl]; unfold outAt; rw [if_neg (by omega)]; rfl), hH⟩
end Go.Proofs.Ytpojpokldncglaa.G
namespace Go.Proofs.Ytpojpokldncglaa.G
open Go Go.RowKit
namespace Wg
theorem u2 : Try.prog.underlying 2 = some (TypeDesc.int .i64) := by kernel_rfl
theorem u22 : Try.prog.underlying 22 = some (TypeDesc.slice 2) := by kernel_rfl
theorem sz2 : Size Try.prog 2 1 := by unfold Size; kernel_rfl
theorem pl2 : Plain Try.prog 2 := ⟨_, u2, rfl⟩
end Wg
open Wg
set_option maxRecDepth 10000 in
theorem markInt64S_s {B : World} {H0 H : HP} {L : List SA} {w : World} {gxs mxs cxs : Nat} {xs : List Value} {k : Int}  (hm : mxs ≤ xs.length) (hn : 0 ≤ k ∧ k + mxs ≤ 9223372036854775807) (hH : Hp B H0 H (obj gxs (.cells xs.toArray 2 (0, 0)) :: L) w) :
    Calls Try.prog 25 [.slice (some ⟨gxs, 0, none⟩) mxs cxs, .int .i64 k].toArray w fun e w' => e = .returned (.int .i64 (k + mxs)) ∧ Hp B H0 H (obj gxs (.cells (intsC (marks k mxs) ++ xs.drop mxs).toArray 2 (0, 0)) :: L) w' := by
  refine CJ.enter Try.func25 rfl 19 rfl rfl [(0, .slice (some ⟨gxs, 0, none⟩) mxs cxs), (1, .int .i64 k)] rfl hH ?_
  clear hH
  refine CJ.seq fun _ hK1 _ => ?_
  refine CJ.region ?_
  refine J.p (PR.assign rfl) rfl ?_
  refine J.nil ?_
  refine EJ.thenN (hK1 ?_)
  refine CJ.seq fun _ hK2 _ => ?_
  refine CJ.seq fun _ hK3 _ => ?_
  refine CJ.region ?_
  refine J.p (PR.assign rfl) rfl ?_
  refine J.nil ?_
  refine EJ.thenN (hK3 ?_)
  refine CJ.block ?_
  refine CJ.loopU (σ := Nat) (fun (i : Nat) => [(5, .int .i64 (i : Int)), (1, .int .i64 (k + i))]) (fun (i : Nat) => H) (fun (i : Nat) => obj gxs (.cells ((intsC (marks k mxs)).take i ++ xs.drop i).toArray 2 (0, 0)) :: L) (fun (i : Nat) => i ≤ mxs) (fun (i : Nat) => mxs - i) 0 (by omega) ⟨rfl, ⟨(vi (by omega)), trivial⟩⟩ rfl (by simp) ?_
  rintro i hI _ hAg0
  have hk := hI
  refine CJ.seq fun _ hK4 _ => ?_
  refine CJ.seq fun _ hK5 _ => ?_
  refine CJ.region ?_
  refine J.p (PR.move rfl) rfl ?_
  refine J.p (PR.move rfl) rfl ?_
  refine J.p (PR.lenSlice u22 rfl rfl) rfl ?_
  refine J.p (PR.lss rfl rfl) rfl ?_
  refine J.nil ?_
  refine EJ.thenN (hK5 ?_)
  refine CJ.condD rfl (fun hc9 => ?_) (fun hc9 => ?_)
  ·
    refine CJ.skip ?_
    refine EJ.thenN (hK4 ?_)
    refine CJ.seq fun _ hK6 _ => ?_
    refine CJ.block ?_
    refine CJ.seq fun _ hK7 _ => ?_
    refine CJ.region ?_
    refine J.p (PR.move rfl) rfl ?_
    refine J.p (PR.move rfl) rfl ?_
    refine J.p (PR.move rfl) rfl ?_
    refine J.p (PR.idxO1 u22 sz2 rfl rfl rfl (by omega)) rfl ?_
    refine J.store rfl rfl rfl rfl sz2 (by simp; omega) .z ?_
    refine J.nil ?_
    refine EJ.thenN (hK7 ?_)
    refine CJ.region ?_
    refine J.p (PR.move rfl) rfl ?_
    refine J.p (PR.add rfl rfl (by first | exact nw _ (by omega) | rfl)) rfl ?_
    refine J.p (PR.assign rfl) rfl ?_
    refine J.nil ?_
    refine EJ.inN ?_
    refine EJ.thenN (hK6 ?_)
    refine CJ.region ?_
    refine J.p (PR.move rfl) rfl ?_
    refine J.p (PR.add rfl rfl (by first | exact nw _ (by omega) | rfl)) rfl ?_
    refine J.p (PR.assign rfl) rfl ?_
    refine J.nil ?_
    refine EJ.thenN ?_
    exact hAg0 (i + 1) (by omega) (by omega) 16 rfl rfl ⟨rfl, ⟨(vi (by omega)), trivial⟩⟩ rfl (by rw [← fill_flat (by omega) (marksC_get (by omega))])
  ·
    refine CJ.exit ?_
    refine EJ.thenE ?_
    refine EJ.thenE ?_
    refine EJ.inE ?_
    refine EJ.thenN (hK2 ?_)
    refine CJ.seq fun _ hK8 _ => ?_
    refine CJ.region ?_
    refine J.p (PR.move rfl) rfl ?_
    refine J.p (PR.assign rfl) rfl ?_
    refine J.nil ?_
    refine EJ.thenN (hK8 ?_)
    refine CJ.ret ?_
    refine EJ.ret1 rfl (Res.tmp rfl) fun w hH => ?_
    obtain rfl : i = mxs := by omega
    exact ⟨rfl, by simpa [List.take_of_length_le] using hH⟩
set_option maxRecDepth 10000 in
theorem markInt64S_0 {B : World} {H0 H : HP} {L : List SA} {w : World} {qxs : Option Addr} {cxs : Nat} {k : Int}   (hH : Hp B H0 H L w) :
    Calls Try.prog 25 [.slice qxs 0 cxs, .int .i64 k].toArray w fun e w' => e = .returned (.int .i64 k) ∧ Hp B H0 H L w' := by
  refine CJ.enter Try.func25 rfl 19 rfl rfl [(0, .slice qxs 0 cxs), (1, .int .i64 k)] rfl hH ?_
  clear hH
  refine CJ.seq fun _ hK1 _ => ?_
  refine CJ.region ?_
  refine J.p (PR.assign rfl) rfl ?_
  refine J.nil ?_
  refine EJ.thenN (hK1 ?_)
  refine CJ.seq fun _ hK2 _ => ?_
  refine CJ.seq fun _ hK3 _ => ?_
  refine CJ.region ?_
  refine J.p (PR.assign rfl) rfl ?_
  refine J.nil ?_
  refine EJ.thenN (hK3 ?_)
  refine CJ.block ?_
  refine CJ.loopU (σ := Unit) (fun (_ : Unit) => [(5, .int .i64 0), (1, .int .i64 k)]) (fun (_ : Unit) => H) (fun (_ : Unit) => L) (fun (_ : Unit) => True) (fun (_ : Unit) => 0) () trivial ⟨rfl, ⟨rfl, trivial⟩⟩ rfl rfl ?_
  rintro _ hI _ hAg0
  refine CJ.seq fun _ hK4 _ => ?_
  refine CJ.seq fun _ hK5 _ => ?_
  refine CJ.region ?_
  refine J.p (PR.move rfl) rfl ?_
  refine J.p (PR.move rfl) rfl ?_
  refine J.p (PR.lenSlice u22 rfl rfl) rfl ?_
  refine J.p (PR.lss rfl rfl) rfl ?_
  refine J.nil ?_
  refine EJ.thenN (hK5 ?_)
  refine CJ.condD rfl (fun hc9 => ?_) (fun hc9 => ?_)
  ·
    exact absurd hc9 (by simp)
  ·
    refine CJ.exit ?_
    refine EJ.thenE ?_
    refine EJ.thenE ?_
    refine EJ.inE ?_
    refine EJ.thenN (hK2 ?_)
    refine CJ.seq fun _ hK6 _ => ?_
    refine CJ.region ?_
    refine J.p (PR.move rfl) rfl ?_
    refine J.p (PR.assign rfl) rfl ?_
    refine J.nil ?_
    refine EJ.thenN (hK6 ?_)
    refine CJ.ret ?_
    refine EJ.ret1 rfl (Res.tmp rfl) fun w hH => ?_
    exact ⟨rfl, hH⟩
theorem markInt64S_c {B : World} {H0 H : HP} {L : List SA} {w : World} {q : Option Addr} {c m : Nat} {cells : List Value} {k : Int} (hn : 0 ≤ k ∧ k + m ≤ 9223372036854775807) (hH : Hp B H0 H (own 2 1 q m c cells :: L) w) :
    Calls Try.prog 25 [.slice q m c, .int .i64 k].toArray w fun e w' => e = .returned (.int .i64 (k + m)) ∧ Hp B H0 H (own 2 1 q m c (intsC (marks k m)) :: L) w' := by
  refine hH.openOwn (by decide) (fun h1 h2 h3 h4 => ?_) (fun g cs h1 h2 h3 h4 h5 h6 hG => ?_)
  · subst h1 h2 h3 h4
    refine (markInt64S_0 hH).mono ?_
    rintro _ w ⟨rfl, h⟩
    exact ⟨by simp, h⟩
  · subst h1
    refine (markInt64S_s (xs := cs) (by omega) hn hG).mono ?_
    rintro _ w ⟨rfl, h⟩
    exact ⟨rfl, h.shutOwn (by simp; omega) h4 h5 (by rw [Nat.mul_one, List.take_append_of_le_length (by simp), List.take_of_length_le (by simp)])⟩
set_option maxRecDepth 10000 in
theorem heldInt64S_c {B : World} {H0 H : HP} {L : List SA} {w : World} {qxs : Option Addr} {cxs xs : Nat} {kxs : Int}   (hxs : MInts H qxs kxs xs) (hn : 0 ≤ kxs ∧ kxs + xs ≤ 9223372036854775807) (hH : Hp B H0 H L w) :
    Calls Try.prog 45 [.slice qxs xs cxs, .int .i64 kxs].toArray w fun e w' => e = .returned (.int .i64 (kxs + xs)) ∧ Hp B H0 H L w' := by
  refine CJ.enter Try.func45 rfl 21 rfl rfl [(0, .slice qxs xs cxs), (1, .int .i64 kxs)] rfl hH ?_
  clear hH
  refine CJ.seq fun _ hK1 _ => ?_
  refine CJ.region ?_
  refine J.p (PR.assign rfl) rfl ?_
  refine J.nil ?_
  refine EJ.thenN (hK1 ?_)
  refine CJ.seq fun _ hK2 _ => ?_
  refine CJ.seq fun _ hK3 _ => ?_
  refine CJ.region ?_
  refine J.p (PR.assign rfl) rfl ?_
  refine J.nil ?_
  refine EJ.thenN (hK3 ?_)
  refine CJ.block ?_
  refine CJ.loopU (σ := Nat) (fun (i : Nat) => [(5, .int .i64 (i : Int)), (1, .int .i64 (kxs + i))]) (fun (i : Nat) => H) (fun (i : Nat) => L) (fun (i : Nat) => i ≤ xs) (fun (i : Nat) => xs - i) 0 (by omega) ⟨rfl, ⟨(vi (by omega)), trivial⟩⟩ rfl rfl ?_
  rintro i hI _ hAg0
  have hk := hI
  refine CJ.seq fun _ hK4 _ => ?_
  refine CJ.seq fun _ hK5 _ => ?_
  refine CJ.region ?_
  refine J.p (PR.move rfl) rfl ?_
  refine J.p (PR.move rfl) rfl ?_
  refine J.p (PR.lenSlice u22 rfl rfl) rfl ?_
  refine J.p (PR.lss rfl rfl) rfl ?_
  refine J.nil ?_
  refine EJ.thenN (hK5 ?_)
  refine CJ.condD rfl (fun hc9 => ?_) (fun hc9 => ?_)
  ·
    refine CJ.skip ?_
    refine EJ.thenN (hK4 ?_)
    refine CJ.seq fun _ hK6 _ => ?_
    refine CJ.block ?_
    refine CJ.seq fun _ hK7 _ => ?_
    refine CJ.seq fun _ hK8 _ => ?_
    refine CJ.region ?_
    refine J.p (PR.move rfl) rfl ?_
    refine J.p (PR.move rfl) rfl ?_
    refine J.p (PR.idx1 u22 sz2 rfl rfl rfl (by omega) hxs.sm) rfl ?_
    refine J.p (PR.loadH rfl (hxs _ (by omega)) pl2) rfl ?_
    refine J.p (PR.move rfl) rfl ?_
    refine J.p (PR.neq rfl rfl) rfl ?_
    refine J.nil ?_
    refine EJ.thenN (hK8 ?_)
    refine CJ.condD rfl (fun hc17 => ?_) (fun hc17 => ?_)
    ·
      refine CJ.seq fun _ hK9 _ => ?_
      refine CJ.region ?_
      refine J.p (PR.assign rfl) rfl ?_
      refine J.nil ?_
      refine EJ.thenN (hK9 ?_)
      refine CJ.ret ?_
      refine EJ.thenR ?_
      refine EJ.inR ?_
      refine EJ.thenR ?_
      refine EJ.thenR ?_
      refine EJ.inR ?_
      refine EJ.thenR ?_
      refine EJ.ret1 rfl (Res.tmp rfl) fun w hH => ?_
      exact absurd rfl hc17
    ·
      refine CJ.skip ?_
      refine EJ.thenN (hK7 ?_)
      refine CJ.region ?_
      refine J.p (PR.move rfl) rfl ?_
      refine J.p (PR.add rfl rfl (by first | exact nw _ (by omega) | rfl)) rfl ?_
      refine J.p (PR.assign rfl) rfl ?_
      refine J.nil ?_
      refine EJ.inN ?_
      refine EJ.thenN (hK6 ?_)
      refine CJ.region ?_
      refine J.p (PR.move rfl) rfl ?_
      refine J.p (PR.add rfl rfl (by first | exact nw _ (by omega) | rfl)) rfl ?_
      refine J.p (PR.assign rfl) rfl ?_
      refine J.nil ?_
      refine EJ.thenN ?_
      exact hAg0 (i + 1) (by omega) (by omega) 18 rfl rfl ⟨rfl, ⟨(vi (by omega)), trivial⟩⟩ rfl rfl
  ·
    refine CJ.exit ?_
    refine EJ.thenE ?_
    refine EJ.thenE ?_
    refine EJ.inE ?_
    refine EJ.thenN (hK2 ?_)
    refine CJ.seq fun _ hK10 _ => ?_
    refine CJ.region ?_
    refine J.p (PR.move rfl) rfl ?_
    refine J.p (PR.assign rfl) rfl ?_
    refine J.nil ?_
    refine EJ.thenN (hK10 ?_)
    refine CJ.ret ?_
    refine EJ.ret1 rfl (Res.tmp rfl) fun w hH => ?_
    obtain rfl : i = xs := by omega
    exact ⟨rfl, hH⟩
end Go.Proofs.Ytpojpokldncglaa.G
namespace Go.Proofs.Ytpojpokldncglaa.G
open Go Go.RowKit
namespace Wh
theorem u2 : Try.prog.underlying 2 = some (TypeDesc.int .i64) := by kernel_rfl
theorem u22 : Try.prog.underlying 22 = some (TypeDesc.slice 2) := by kernel_rfl
theorem sz2 : Size Try.prog 2 1 := by unfold Size; kernel_rfl
theorem pl2 : Plain Try.prog 2 := ⟨_, u2, rfl⟩
end Wh
open Wh
def firstOf (xs : List Int) : Int := (xs.find? (fun x => decide (x ≠ 0))).getD 0
theorem firstOf_hit {xs : List Int} {k : Nat} (hk : k < xs.length) (h : ∀ j, j < k → xs.getD j 0 = 0) (hn : xs.getD k 0 ≠ 0) : firstOf xs = xs.getD k 0 := by
  have hg : ∀ j, (hj : j < xs.length) → xs[j] = xs.getD j 0 := fun j hj => by rw [List.getD_eq_getElem?_getD, List.getElem?_eq_getElem hj]; rfl
  unfold firstOf
  have : xs.find? (fun x => decide (x ≠ 0)) = some xs[k] := by
    rw [List.find?_eq_some_iff_getElem]
    exact ⟨by rw [hg]; exact decide_eq_true hn, k, hk, rfl, fun j hj => by rw [hg, h j hj]; rfl⟩
  rw [this, hg]
  rfl
theorem firstOf_miss {xs : List Int} (h : ∀ j, j < xs.length → xs.getD j 0 = 0) : firstOf xs = 0 := by
  unfold firstOf
  have : xs.find? (fun x => decide (x ≠ 0)) = none := by
    rw [List.find?_eq_none]
    intro x hx
    obtain ⟨j, hj, rfl⟩ := List.mem_iff_getElem.1 hx
    have := h j hj
    rw [List.getD_eq_getElem?_getD, List.getElem?_eq_getElem hj] at this
    simpa using this
  rw [this]
  rfl
set_option maxRecDepth 10000 in
theorem when_c {B : World} {H0 H : HP} {L : List SA} {w : World} {b : Bool} {x : Int}   (hH : Hp B H0 H L w) :
    Calls Try.prog 75 [.bool b, .int .i64 x].toArray w fun e w' => e = .returned (.int .i64 (if b then x else 0)) ∧ Hp B H0 H L w' := by
  refine CJ.enter Try.func75 rfl 7 rfl rfl [(0, .bool b), (1, .int .i64 x)] rfl hH ?_
  clear hH
  refine CJ.seq fun _ hK1 _ => ?_
  refine CJ.region ?_
  refine J.p (PR.assign rfl) rfl ?_
  refine J.nil ?_
  refine EJ.thenN (hK1 ?_)
  refine CJ.seq fun _ hK2 _ => ?_
  refine CJ.seq fun _ hK3 _ => ?_
  refine CJ.region ?_
  refine J.p (PR.move rfl) rfl ?_
  refine J.nil ?_
  refine EJ.thenN (hK3 ?_)
  refine CJ.cond rfl (fun h5 => ?_) (fun h5 => ?_)
  ·
    refine CJ.seq fun _ hK4 _ => ?_
    refine CJ.region ?_
    refine J.p (PR.move rfl) rfl ?_
    refine J.p (PR.assign rfl) rfl ?_
    refine J.nil ?_
    refine EJ.thenN (hK4 ?_)
    refine CJ.ret ?_
    refine EJ.thenR ?_
    refine EJ.ret1 rfl (Res.tmp rfl) fun w hH => ?_
    exact ⟨by rw [if_pos h5], hH⟩
  ·
    refine CJ.skip ?_
    refine EJ.thenN (hK2 ?_)
    refine CJ.seq fun _ hK5 _ => ?_
    refine CJ.region ?_
    refine J.p (PR.assign rfl) rfl ?_
    refine J.nil ?_
    refine EJ.thenN (hK5 ?_)
    refine CJ.ret ?_
    refine EJ.ret1 rfl (Res.tmp rfl) fun w hH => ?_
    exact ⟨by rw [if_neg (by rw [h5]; simp)], hH⟩
set_option maxRecDepth 10000 in
theorem first_c {B : World} {H0 H : HP} {L : List SA} {w : World} {qxs : Option Addr} {cxs : Nat} {xs : List Int}  (hxs : Ints H qxs xs) (hn : xs.length ≤ 1000) (hH : Hp B H0 H L w) :
    Calls Try.prog 74 [.slice qxs xs.length cxs].toArray w fun e w' => e = .returned (.int .i64 (firstOf xs)) ∧ Hp B H0 H L w' := by
  refine CJ.enter Try.func74 rfl 15 rfl rfl [(0, .slice qxs xs.length cxs)] rfl hH ?_
  clear hH
  refine CJ.seq fun _ hK1 _ => ?_
  refine CJ.region ?_
  refine J.p (PR.assign rfl) rfl ?_
  refine J.nil ?_
  refine EJ.thenN (hK1 ?_)
  refine CJ.seq fun _ hK2 _ => ?_
  refine CJ.seq fun _ hK3 _ => ?_
  refine CJ.region ?_
  refine J.p (PR.move rfl) rfl ?_
  refine J.p (PR.lenSlice u22 rfl rfl) rfl ?_
  refine J.p (PR.move rfl) rfl ?_
  refine J.nil ?_
  refine EJ.thenN (hK3 ?_)
  refine CJ.block ?_
  refine CJ.loopU (σ := Nat) (fun (k : Nat) => [(7, .int .i64 (k : Int))]) (fun (k : Nat) => H) (fun (k : Nat) => L) (fun (k : Nat) => k ≤ xs.length ∧ ∀ j, j < k → xs.getD j 0 = 0) (fun (k : Nat) => xs.length - k) 0 ⟨by omega, fun j hj => by omega⟩ ⟨rfl, trivial⟩ rfl rfl ?_
  rintro k hI _ hAg0
  have hk := hI.1
  refine CJ.seq fun _ hK4 _ => ?_
  refine CJ.region ?_
  refine J.p (PR.lss rfl rfl) rfl ?_
  refine J.nil ?_
  refine EJ.thenN (hK4 ?_)
  refine CJ.seq fun _ hK5 _ => ?_
  refine CJ.condD rfl (fun hc8 => ?_) (fun hc8 => ?_)
  ·
    refine CJ.skip ?_
    refine EJ.thenN (hK5 ?_)
    refine CJ.seq fun _ hK6 _ => ?_
    refine CJ.block ?_
    refine CJ.seq fun _ hK7 _ => ?_
    refine CJ.region ?_
    refine J.p (PR.idx1 u22 sz2 rfl rfl rfl (by omega) hxs.sm) rfl ?_
    refine J.p (PR.loadH rfl (hxs _ (by omega)) pl2) rfl ?_
    refine J.p (PR.assign rfl) rfl ?_
    refine J.nil ?_
    refine EJ.thenN (hK7 ?_)
    refine CJ.seq fun _ hK8 _ => ?_
    refine CJ.region ?_
    refine J.p (PR.move rfl) rfl ?_
    refine J.p (PR.neq rfl rfl) rfl ?_
    refine J.nil ?_
    refine EJ.thenN (hK8 ?_)
    refine CJ.condD rfl (fun hc12 => ?_) (fun hc12 => ?_)
    ·
      refine CJ.seq fun _ hK9 _ => ?_
      refine CJ.region ?_
      refine J.p (PR.move rfl) rfl ?_
      refine J.p (PR.assign rfl) rfl ?_
      refine J.nil ?_
      refine EJ.thenN (hK9 ?_)
      refine CJ.ret ?_
      refine EJ.inR ?_
      refine EJ.thenR ?_
      refine EJ.thenR ?_
      refine EJ.inR ?_
      refine EJ.thenR ?_
      refine EJ.ret1 rfl (Res.tmp rfl) fun w hH => ?_
      exact ⟨ri (firstOf_hit (by omega) hI.2 hc12).symm, hH⟩
    ·
      refine CJ.skip ?_
      refine EJ.inN ?_
      refine EJ.thenN (hK6 ?_)
      refine CJ.region ?_
      refine J.p (PR.add rfl rfl (by first | exact nw _ (by omega) | rfl)) rfl ?_
      refine J.p (PR.move rfl) rfl ?_
      refine J.nil ?_
      refine EJ.thenN ?_
      exact hAg0 (k + 1) ⟨by omega, upto hI.2 (Decidable.not_not.1 hc12)⟩ (by omega) 9 rfl rfl ⟨rfl, trivial⟩ rfl rfl
  ·
    refine CJ.exit ?_
    refine EJ.thenE ?_
    refine EJ.thenE ?_
    refine EJ.inE ?_
    refine EJ.thenN (hK2 ?_)
    refine CJ.seq fun _ hK10 _ => ?_
    refine CJ.region ?_
    refine J.p (PR.assign rfl) rfl ?_
    refine J.nil ?_
    refine EJ.thenN (hK10 ?_)
    refine CJ.ret ?_
    refine EJ.ret1 rfl (Res.tmp rfl) fun w hH => ?_
    exact ⟨ri (firstOf_miss (fun j hj => hI.2 j (by omega))).symm, hH⟩
def upd (out : List Int) (k n : Nat) : List Int := out.set k (out.getD k 0 + out.getD (k - n) 0)
def passE (n : Nat) : Nat → List Int → List Int
  | 0, out => out
  | c + 1, out => upd (passE n c out) (n + c) n
def passO (n m : Nat) : Nat → List Int → List Int
  | 0, out => out
  | c + 1, out => upd (passO n m c out) (m - c) n
def pass (m : Nat) (d : Int) (out : List Int) : List Int := if d.tmod 2 = 1 then passO d.toNat m (m + 1 - d.toNat) out else passE d.toNat (m + 1 - d.toNat) out
def serK (ds : List Int) (m : Nat) : Nat → List Int
  | 0 => (List.replicate (m + 1) 0).set 0 1
  | i + 1 => pass m (ds.getD i 0) (serK ds m i)
def series (ds : List Int) (m : Nat) : List Int := serK ds m ds.length
@[simp] theorem upd_length (out : List Int) (k n : Nat) : (upd out k n).length = out.length := by simp [upd]
@[simp] theorem passE_length (n c : Nat) (out : List Int) : (passE n c out).length = out.length := by induction c with | zero => rfl | succ c ih => simp [passE, ih]
@[simp] theorem passO_length (n m c : Nat) (out : List Int) : (passO n m c out).length = out.length := by induction c with | zero => rfl | succ c ih => simp [passO, ih]
@[simp] theorem pass_length (m : Nat) (d : Int) (out : List Int) : (pass m d out).length = out.length := by unfold pass; split <;> simp
@[simp] theorem serK_length (ds : List Int) (m i : Nat) : (serK ds m i).length = m + 1 := by induction i with | zero => simp [serK] | succ i ih => simp [serK, ih]
@[simp] theorem series_length (ds : List Int) (m : Nat) : (series ds m).length = m + 1 := by simp [series]
def In (X : Int) (a : List Int) : Prop := ∀ j, 0 ≤ a.getD j 0 ∧ a.getD j 0 ≤ X
theorem In.le {a : List Int} {X Y : Int} (h : In X a) (hXY : X ≤ Y) : In Y a := fun j => ⟨(h j).1, Int.le_trans (h j).2 hXY⟩
def cap : Nat → Int
  | 0 => 1
  | i + 1 => 41 * cap i
end Go.Proofs.Ytpojpokldncglaa.G
namespace Go.Proofs.Ytpojpokldncglaa.G
open Go Go.RowKit
namespace Wi
theorem u2 : Try.prog.underlying 2 = some (TypeDesc.int .i64) := by kernel_rfl
theorem u27 : Try.prog.underlying 27 = some (TypeDesc.slice 88) := by kernel_rfl
theorem u29 : Try.prog.underlying 29 = some (TypeDesc.struct #[{ name := "Terms", type := 27, offset := 0, embedded := false, tag := "", pkgPath := "", byteOffset := 0 }]) := by kernel_rfl
theorem u3 : Try.prog.underlying 3 = some (TypeDesc.int .i64) := by kernel_rfl
theorem u5 : Try.prog.underlying 5 = some (TypeDesc.int .u8) := by kernel_rfl
theorem u86 : Try.prog.underlying 86 = some (TypeDesc.array 8 5) := by kernel_rfl
theorem u88 : Try.prog.underlying 88 = some (TypeDesc.struct #[{ name := "Monomial", type := 86, offset := 0, embedded := false, tag := "", pkgPath := "", byteOffset := 0 }, { name := "Factor", type := 2, offset := 8, embedded := false, tag := "", pkgPath := "", byteOffset := 8 }]) := by kernel_rfl
theorem sz2 : Size Try.prog 2 1 := by unfold Size; kernel_rfl
theorem sz27 : Size Try.prog 27 1 := by unfold Size; kernel_rfl
theorem sz5 : Size Try.prog 5 1 := by unfold Size; kernel_rfl
theorem sz86 : Size Try.prog 86 8 := by unfold Size; kernel_rfl
theorem sz88 : Size Try.prog 88 9 := by unfold Size; kernel_rfl
theorem pl2 : Plain Try.prog 2 := ⟨_, u2, rfl⟩
theorem pl27 : Plain Try.prog 27 := ⟨_, u27, rfl⟩
theorem pl5 : Plain Try.prog 5 := ⟨_, u5, rfl⟩
theorem fn81 : Fn Try.prog 81 := ⟨_, Try.func81, by kernel_rfl, rfl⟩
theorem fn82 : Fn Try.prog 82 := ⟨_, Try.func82, by kernel_rfl, rfl⟩
end Wi
open Wi
set_option maxHeartbeats 1000000 in
set_option maxRecDepth 10000 in
theorem markTermS_s {B : World} {H0 H : HP} {L : List SA} {w : World} {gxs mxs cxs : Nat} {xs : List Value} {k : Int}  (hm : mxs * 9 ≤ xs.length) (hn : 0 ≤ k ∧ k + 9 * mxs ≤ 9223372036854775807) (hH : Hp B H0 H (obj gxs (.cells xs.toArray 88 (0, 0)) :: L) w) :
    Calls Try.prog 81 [.slice (some ⟨gxs, 0, none⟩) mxs cxs, .int .i64 k].toArray w fun e w' => e = .returned (.int .i64 (k + 9 * mxs)) ∧ Hp B H0 H (obj gxs (.cells (tsC (marksT k mxs) ++ xs.drop (mxs * 9)).toArray 88 (0, 0)) :: L) w' := by
  refine CJ.enter Try.func81 rfl 35 rfl rfl [(0, .slice (some ⟨gxs, 0, none⟩) mxs cxs), (1, .int .i64 k)] rfl hH ?_
  clear hH
  have hML : (tsC (marksT k mxs)).length = mxs * 9 := by rw [tsC_length (marksT_wfs hn), marksT_length]
  refine CJ.seq fun _ hK1 _ => ?_
  refine CJ.region ?_
  refine J.p (PR.assign rfl) rfl ?_
  refine J.nil ?_
  refine EJ.thenN (hK1 ?_)
  refine CJ.seq fun _ hK2 _ => ?_
  refine CJ.seq fun _ hK3 _ => ?_
  refine CJ.region ?_
  refine J.p (PR.assign rfl) rfl ?_
  refine J.nil ?_
  refine EJ.thenN (hK3 ?_)
  refine CJ.block ?_
  refine CJ.loopU (σ := Nat) (fun (i : Nat) => [(5, .int .i64 (i : Int)), (1, .int .i64 (k + 9 * i))]) (fun (i : Nat) => H) (fun (i : Nat) => obj gxs (.cells ((tsC (marksT k mxs)).take (i * 9) ++ xs.drop (i * 9)).toArray 88 (0, 0)) :: L) (fun (i : Nat) => i ≤ mxs) (fun (i : Nat) => mxs - i) 0 (by omega) ⟨rfl, ⟨(vi (by omega)), trivial⟩⟩ rfl (by simp) ?_
  rintro i hI _ hAg0
  have hk := hI
  refine CJ.seq fun _ hK4 _ => ?_
  refine CJ.seq fun _ hK5 _ => ?_
  refine CJ.region ?_
  refine J.p (PR.move rfl) rfl ?_
  refine J.p (PR.move rfl) rfl ?_
  refine J.p (PR.lenSlice u27 rfl rfl) rfl ?_
  refine J.p (PR.lss rfl rfl) rfl ?_
  refine J.nil ?_
  refine EJ.thenN (hK5 ?_)
  refine CJ.condD rfl (fun hc10 => ?_) (fun hc10 => ?_)
  ·
    refine CJ.skip ?_
    refine EJ.thenN (hK4 ?_)
    refine CJ.seq fun _ hK6 _ => ?_
    refine CJ.block ?_
    refine CJ.seq fun _ hK7 _ => ?_
    refine CJ.seq fun _ hK8 _ => ?_
    refine CJ.region ?_
    refine J.p (PR.assign rfl) rfl ?_
    refine J.nil ?_
    refine EJ.thenN (hK8 ?_)
    refine CJ.block ?_
    refine CJ.loopU (σ := Nat) (fun (j : Nat) => [(6, .int .i64 (j : Int)), (1, .int .i64 (k + 9 * i + j))]) (fun (j : Nat) => H) (fun (j : Nat) => obj gxs (.cells ((tsC (marksT k mxs)).take (i * 9 + j) ++ xs.drop (i * 9 + j)).toArray 88 (0, 0)) :: L) (fun (j : Nat) => j ≤ 8) (fun (j : Nat) => 8 - j) 0 (by omega) ⟨rfl, ⟨(vi (by omega)), trivial⟩⟩ rfl rfl ?_
    rintro j hJ _ hAg1
    have hj := hJ
    refine CJ.seq fun _ hK9 _ => ?_
    refine CJ.seq fun _ hK10 _ => ?_
    refine CJ.region ?_
    refine J.p (PR.move rfl) rfl ?_
    refine J.p (PR.lss rfl rfl) rfl ?_
    refine J.nil ?_
    refine EJ.thenN (hK10 ?_)
    refine CJ.condD rfl (fun hc14 => ?_) (fun hc14 => ?_)
    ·
      refine CJ.skip ?_
      refine EJ.thenN (hK9 ?_)
      refine CJ.seq fun _ hK11 _ => ?_
      refine CJ.block ?_
      refine CJ.seq fun _ hK12 _ => ?_
      refine CJ.region ?_
      refine J.p (PR.move rfl) rfl ?_
      refine J.p (PR.move rfl) rfl ?_
      refine J.p (PR.move rfl) rfl ?_
      refine J.p (PR.move rfl) rfl ?_
      refine J.p (PR.conv u3 u5 rfl rfl) rfl ?_
      refine J.p (PR.idxO u27 sz88 rfl rfl rfl (by omega)) rfl ?_
      refine J.p (PR.fldA u88 rfl sz86 rfl) rfl ?_
      refine J.p (PR.idxB u86 sz5 rfl rfl rfl (by omega)) rfl ?_
      refine J.store rfl rfl rfl rfl sz5 (by show i * 9 + 0 + j < _; simp only [List.length_append, List.length_take, List.length_drop]; omega) .z ?_
      refine J.nil ?_
      refine EJ.thenN (hK12 ?_)
      refine CJ.region ?_
      refine J.p (PR.move rfl) rfl ?_
      refine J.p (PR.add rfl rfl (by first | exact nw _ (by omega) | rfl)) rfl ?_
      refine J.p (PR.assign rfl) rfl ?_
      refine J.nil ?_
      refine EJ.inN ?_
      refine EJ.thenN (hK11 ?_)
      refine CJ.region ?_
      refine J.p (PR.move rfl) rfl ?_
      refine J.p (PR.add rfl rfl (by first | exact nw _ (by omega) | rfl)) rfl ?_
      refine J.p (PR.assign rfl) rfl ?_
      refine J.nil ?_
      refine EJ.thenN ?_
      exact hAg1 (j + 1) (by omega) (by omega) 18 rfl rfl ⟨rfl, ⟨(vi (by omega)), trivial⟩⟩ rfl (by have e := fill_flat (M := tsC (marksT k mxs)) (cs := xs) (p := i * 9 + j) (by omega) (marksTC_byte hn (by omega) (by omega)); rw [show i * 9 + (j + 1) = i * 9 + j + 1 by omega, ← e]; rfl)
    ·
      refine CJ.exit ?_
      refine EJ.thenE ?_
      refine EJ.thenE ?_
      refine EJ.inE ?_
      refine EJ.thenN (hK7 ?_)
      refine CJ.seq fun _ hK13 _ => ?_
      refine CJ.region ?_
      refine J.p (PR.move rfl) rfl ?_
      refine J.p (PR.move rfl) rfl ?_
      refine J.p (PR.move rfl) rfl ?_
      refine J.p (PR.idxO u27 sz88 rfl rfl rfl (by omega)) rfl ?_
      refine J.p (PR.fldA u88 rfl sz2 rfl) rfl ?_
      refine J.store rfl rfl rfl rfl sz2 (by show i * 9 + 8 < _; simp only [List.length_append, List.length_take, List.length_drop]; omega) .z ?_
      refine J.nil ?_
      refine EJ.thenN (hK13 ?_)
      refine CJ.region ?_
      refine J.p (PR.move rfl) rfl ?_
      refine J.p (PR.add rfl rfl (by first | exact nw _ (by omega) | rfl)) rfl ?_
      refine J.p (PR.assign rfl) rfl ?_
      refine J.nil ?_
      refine EJ.inN ?_
      refine EJ.thenN (hK6 ?_)
      refine CJ.region ?_
      refine J.p (PR.move rfl) rfl ?_
      refine J.p (PR.add rfl rfl (by first | exact nw _ (by omega) | rfl)) rfl ?_
      refine J.p (PR.assign rfl) rfl ?_
      refine J.nil ?_
      refine EJ.thenN ?_
      exact hAg0 (i + 1) (by omega) (by omega) 22 rfl rfl ⟨rfl, ⟨(vi (by omega)), trivial⟩⟩ rfl (by have e := fill_flat (M := tsC (marksT k mxs)) (cs := xs) (p := i * 9 + 8) (by omega) (marksTC_fac hn (by omega)); obtain rfl : j = 8 := (by omega); rw [show (i + 1) * 9 = i * 9 + 8 + 1 by omega, ← e, show k + 9 * (i : Int) + ((8 : Nat) : Int) = k + 9 * (i : Int) + 8 by omega]; rfl)
  ·
    refine CJ.exit ?_
    refine EJ.thenE ?_
    refine EJ.thenE ?_
    refine EJ.inE ?_
    refine EJ.thenN (hK2 ?_)
    refine CJ.seq fun _ hK14 _ => ?_
    refine CJ.region ?_
    refine J.p (PR.move rfl) rfl ?_
    refine J.p (PR.assign rfl) rfl ?_
    refine J.nil ?_
    refine EJ.thenN (hK14 ?_)
    refine CJ.ret ?_
    refine EJ.ret1 rfl (Res.tmp rfl) fun w hH => ?_
    obtain rfl : i = mxs := by omega
    rw [List.take_of_length_le (by omega)] at hH
    exact ⟨rfl, hH⟩
set_option maxRecDepth 10000 in
theorem markTermS_0 {B : World} {H0 H : HP} {L : List SA} {w : World} {qxs : Option Addr} {cxs : Nat} {k : Int}   (hH : Hp B H0 H L w) :
    Calls Try.prog 81 [.slice qxs 0 cxs, .int .i64 k].toArray w fun e w' => e = .returned (.int .i64 k) ∧ Hp B H0 H L w' := by
  refine CJ.enter Try.func81 rfl 35 rfl rfl [(0, .slice qxs 0 cxs), (1, .int .i64 k)] rfl hH ?_
  clear hH
  refine CJ.seq fun _ hK1 _ => ?_
  refine CJ.region ?_
  refine J.p (PR.assign rfl) rfl ?_
  refine J.nil ?_
  refine EJ.thenN (hK1 ?_)
  refine CJ.seq fun _ hK2 _ => ?_
  refine CJ.seq fun _ hK3 _ => ?_
  refine CJ.region ?_
  refine J.p (PR.assign rfl) rfl ?_
  refine J.nil ?_
  refine EJ.thenN (hK3 ?_)
  refine CJ.block ?_
  refine CJ.loopU (σ := Unit) (fun (_ : Unit) => [(5, .int .i64 0), (1, .int .i64 k)]) (fun (_ : Unit) => H) (fun (_ : Unit) => L) (fun (_ : Unit) => True) (fun (_ : Unit) => 0) () trivial ⟨rfl, ⟨rfl, trivial⟩⟩ rfl rfl ?_
  rintro _ hI _ hAg0
  refine CJ.seq fun _ hK4 _ => ?_
  refine CJ.seq fun _ hK5 _ => ?_
  refine CJ.region ?_
  refine J.p (PR.move rfl) rfl ?_
  refine J.p (PR.move rfl) rfl ?_
  refine J.p (PR.lenSlice u27 rfl rfl) rfl ?_
  refine J.p (PR.lss rfl rfl) rfl ?_
  refine J.nil ?_
  refine EJ.thenN (hK5 ?_)
  refine CJ.condD rfl (fun hc10 => ?_) (fun hc10 => ?_)
  ·
    exact absurd hc10 (by simp)
  ·
    refine CJ.exit ?_
    refine EJ.thenE ?_
    refine EJ.thenE ?_
    refine EJ.inE ?_
    refine EJ.thenN (hK2 ?_)
    refine CJ.seq fun _ hK6 _ => ?_
    refine CJ.region ?_
    refine J.p (PR.move rfl) rfl ?_
    refine J.p (PR.assign rfl) rfl ?_
    refine J.nil ?_
    refine EJ.thenN (hK6 ?_)
    refine CJ.ret ?_
    refine EJ.ret1 rfl (Res.tmp rfl) fun w hH => ?_
    exact ⟨rfl, hH⟩
theorem markTermS_c {B : World} {H0 H : HP} {L : List SA} {w : World} {q : Option Addr} {c m : Nat} {cells : List Value} {k : Int} (hn : 0 ≤ k ∧ k + 9 * (m : Nat) ≤ 9223372036854775807) (hH : Hp B H0 H (own 88 9 q m c cells :: L) w) :
    Calls Try.prog 81 [.slice q m c, .int .i64 k].toArray w fun e w' => e = .returned (.int .i64 (k + 9 * (m : Nat))) ∧ Hp B H0 H (own 88 9 q m c (tsC (marksT k m)) :: L) w' := by
  refine hH.openOwn (by decide) (fun h1 h2 h3 h4 => ?_) (fun g cs h1 h2 h3 h4 h5 h6 hG => ?_)
  · subst h1 h2 h3 h4
    refine (markTermS_0 hH).mono ?_
    rintro _ w ⟨rfl, h⟩
    exact ⟨by simp, h⟩
  · subst h1
    refine (markTermS_s (xs := cs) (by omega) hn hG).mono ?_
    rintro _ w ⟨rfl, h⟩
    have hl : (tsC (marksT k m)).length = m * 9 := by rw [tsC_length (marksT_wfs hn), marksT_length]
    exact ⟨rfl, h.shutOwn (by simp only [List.length_append, List.length_drop]; omega) h4 h5 (by rw [List.take_append_of_le_length (by omega), List.take_of_length_le (by omega)])⟩
set_option maxHeartbeats 1000000 in
set_option maxRecDepth 10000 in
theorem heldTermS_c {B : World} {H0 H : HP} {L : List SA} {w : World} {qxs : Option Addr} {cxs xs : Nat} {kxs : Int}   (hxs : MTerms H qxs kxs xs) (hn : 0 ≤ kxs ∧ kxs + 9 * (xs : Nat) ≤ 9223372036854775807) (hH : Hp B H0 H L w) :
    Calls Try.prog 82 [.slice qxs xs cxs, .int .i64 kxs].toArray w fun e w' => e = .returned (.int .i64 (kxs + 9 * (xs : Nat))) ∧ Hp B H0 H L w' := by
  refine CJ.enter Try.func82 rfl 39 rfl rfl [(0, .slice qxs xs cxs), (1, .int .i64 kxs)] rfl hH ?_
  clear hH
  refine CJ.seq fun _ hK1 _ => ?_
  refine CJ.region ?_
  refine J.p (PR.assign rfl) rfl ?_
  refine J.nil ?_
  refine EJ.thenN (hK1 ?_)
  refine CJ.seq fun _ hK2 _ => ?_
  refine CJ.seq fun _ hK3 _ => ?_
  refine CJ.region ?_
  refine J.p (PR.assign rfl) rfl ?_
  refine J.nil ?_
  refine EJ.thenN (hK3 ?_)
  refine CJ.block ?_
  refine CJ.loopU (σ := Nat) (fun (i : Nat) => [(5, .int .i64 (i : Int)), (1, .int .i64 (kxs + 9 * (i : Nat)))]) (fun (i : Nat) => H) (fun (i : Nat) => L) (fun (i : Nat) => i ≤ xs) (fun (i : Nat) => xs - i) 0 (by omega) ⟨rfl, ⟨(vi (by omega)), trivial⟩⟩ rfl rfl ?_
  rintro i hI _ hAg0
  have hk := hI
  refine CJ.seq fun _ hK4 _ => ?_
  refine CJ.seq fun _ hK5 _ => ?_
  refine CJ.region ?_
  refine J.p (PR.move rfl) rfl ?_
  refine J.p (PR.move rfl) rfl ?_
  refine J.p (PR.lenSlice u27 rfl rfl) rfl ?_
  refine J.p (PR.lss rfl rfl) rfl ?_
  refine J.nil ?_
  refine EJ.thenN (hK5 ?_)
  refine CJ.condD rfl (fun hc10 => ?_) (fun hc10 => ?_)
  ·
    refine CJ.skip ?_
    refine EJ.thenN (hK4 ?_)
    refine CJ.seq fun _ hK6 _ => ?_
    refine CJ.block ?_
    refine CJ.seq fun _ hK7 _ => ?_
    refine CJ.seq fun _ hK8 _ => ?_
    refine CJ.region ?_
    refine J.p (PR.assign rfl) rfl ?_
    refine J.nil ?_
    refine EJ.thenN (hK8 ?_)
    refine CJ.block ?_
    refine CJ.loopU (σ := Nat) (fun (j : Nat) => [(6, .int .i64 (j : Int)), (1, .int .i64 (kxs + 9 * (i : Nat) + (j : Nat)))]) (fun (j : Nat) => H) (fun (j : Nat) => L) (fun (j : Nat) => j ≤ 8) (fun (j : Nat) => 8 - j) 0 (by omega) ⟨rfl, ⟨(vi (by omega)), trivial⟩⟩ rfl rfl ?_
    rintro j hJ _ hAg1
    have hj := hJ
    refine CJ.seq fun _ hK9 _ => ?_
    refine CJ.seq fun _ hK10 _ => ?_
    refine CJ.region ?_
    refine J.p (PR.move rfl) rfl ?_
    refine J.p (PR.lss rfl rfl) rfl ?_
    refine J.nil ?_
    refine EJ.thenN (hK10 ?_)
    refine CJ.condD rfl (fun hc14 => ?_) (fun hc14 => ?_)
    ·
      refine CJ.skip ?_
      refine EJ.thenN (hK9 ?_)
      refine CJ.seq fun _ hK11 _ => ?_
      refine CJ.block ?_
      refine CJ.seq fun _ hK12 _ => ?_
      refine CJ.seq fun _ hK13 _ => ?_
      refine CJ.region ?_
      refine J.p (PR.move rfl) rfl ?_
      refine J.p (PR.move rfl) rfl ?_
      refine J.p (PR.move rfl) rfl ?_
      refine J.p (PR.idx u27 sz88 rfl rfl rfl (by omega) hxs.sm) rfl ?_
      refine J.p (PR.fldP u88 rfl sz86 rfl (hxs.sm (i := i) (by omega))) rfl ?_
      refine J.p (PR.idxP1 u86 sz5 rfl (hxs.sm (i := i) (by omega)) rfl rfl (by omega)) rfl ?_
      refine J.p (PR.loadH rfl (hxs.byte _ (by omega) _ (by omega)) pl5) rfl ?_
      refine J.p (PR.move rfl) rfl ?_
      refine J.p (PR.conv u3 u5 rfl rfl) rfl ?_
      refine J.p (PR.neq rfl rfl) rfl ?_
      refine J.nil ?_
      refine EJ.thenN (hK13 ?_)
      refine CJ.condD rfl (fun hc26 => ?_) (fun hc26 => ?_)
      ·
        refine CJ.seq fun _ hK14 _ => ?_
        refine CJ.region ?_
        refine J.p (PR.assign rfl) rfl ?_
        refine J.nil ?_
        refine EJ.thenN (hK14 ?_)
        refine CJ.ret ?_
        refine EJ.thenR ?_
        refine EJ.inR ?_
        refine EJ.thenR ?_
        refine EJ.thenR ?_
        refine EJ.inR ?_
        refine EJ.thenR ?_
        refine EJ.inR ?_
        refine EJ.thenR ?_
        refine EJ.thenR ?_
        refine EJ.inR ?_
        refine EJ.thenR ?_
        refine EJ.ret1 rfl (Res.tmp rfl) fun w hH => ?_
        exact absurd rfl hc26
      ·
        refine CJ.skip ?_
        refine EJ.thenN (hK12 ?_)
        refine CJ.region ?_
        refine J.p (PR.move rfl) rfl ?_
        refine J.p (PR.add rfl rfl (by first | exact nw _ (by omega) | rfl)) rfl ?_
        refine J.p (PR.assign rfl) rfl ?_
        refine J.nil ?_
        refine EJ.inN ?_
        refine EJ.thenN (hK11 ?_)
        refine CJ.region ?_
        refine J.p (PR.move rfl) rfl ?_
        refine J.p (PR.add rfl rfl (by first | exact nw _ (by omega) | rfl)) rfl ?_
        refine J.p (PR.assign rfl) rfl ?_
        refine J.nil ?_
        refine EJ.thenN ?_
        exact hAg1 (j + 1) (by omega) (by omega) 20 rfl rfl ⟨rfl, ⟨(vi (by omega)), trivial⟩⟩ rfl rfl
    ·
      refine CJ.exit ?_
      refine EJ.thenE ?_
      refine EJ.thenE ?_
      refine EJ.inE ?_
      refine EJ.thenN (hK7 ?_)
      refine CJ.seq fun _ hK15 _ => ?_
      refine CJ.seq fun _ hK16 _ => ?_
      refine CJ.region ?_
      refine J.p (PR.move rfl) rfl ?_
      refine J.p (PR.move rfl) rfl ?_
      refine J.p (PR.idx u27 sz88 rfl rfl rfl (by omega) hxs.sm) rfl ?_
      refine J.p (PR.fldP u88 rfl sz2 rfl (hxs.sm (i := i) (by omega))) rfl ?_
      refine J.p (PR.loadH rfl (hxs.fac _ (by omega)) pl2) rfl ?_
      refine J.p (PR.move rfl) rfl ?_
      refine J.p (PR.neq rfl rfl) rfl ?_
      refine J.nil ?_
      refine EJ.thenN (hK16 ?_)
      refine CJ.condD rfl (fun hc35 => ?_) (fun hc35 => ?_)
      ·
        refine CJ.seq fun _ hK17 _ => ?_
        refine CJ.region ?_
        refine J.p (PR.assign rfl) rfl ?_
        refine J.nil ?_
        refine EJ.thenN (hK17 ?_)
        refine CJ.ret ?_
        refine EJ.thenR ?_
        refine EJ.inR ?_
        refine EJ.thenR ?_
        refine EJ.thenR ?_
        refine EJ.inR ?_
        refine EJ.thenR ?_
        refine EJ.ret1 rfl (Res.tmp rfl) fun w hH => ?_
        exact absurd (by obtain rfl : j = 8 := (by omega); rfl) hc35
      ·
        refine CJ.skip ?_
        refine EJ.thenN (hK15 ?_)
        refine CJ.region ?_
        refine J.p (PR.move rfl) rfl ?_
        refine J.p (PR.add rfl rfl (by first | exact nw _ (by omega) | rfl)) rfl ?_
        refine J.p (PR.assign rfl) rfl ?_
        refine J.nil ?_
        refine EJ.inN ?_
        refine EJ.thenN (hK6 ?_)
        refine CJ.region ?_
        refine J.p (PR.move rfl) rfl ?_
        refine J.p (PR.add rfl rfl (by first | exact nw _ (by omega) | rfl)) rfl ?_
        refine J.p (PR.assign rfl) rfl ?_
        refine J.nil ?_
        refine EJ.thenN ?_
        exact hAg0 (i + 1) (by omega) (by omega) 24 rfl rfl ⟨rfl, ⟨(vi (by omega)), trivial⟩⟩ rfl rfl
  ·
    refine CJ.exit ?_
    refine EJ.thenE ?_
    refine EJ.thenE ?_
    refine EJ.inE ?_
    refine EJ.thenN (hK2 ?_)
    refine CJ.seq fun _ hK18 _ => ?_
    refine CJ.region ?_
    refine J.p (PR.move rfl) rfl ?_
    refine J.p (PR.assign rfl) rfl ?_
    refine J.nil ?_
    refine EJ.thenN (hK18 ?_)
    refine CJ.ret ?_
    refine EJ.ret1 rfl (Res.tmp rfl) fun w hH => ?_
    obtain rfl : i = xs := by omega
    exact ⟨rfl, hH⟩
set_option maxRecDepth 10000 in
theorem markForm_c {B : World} {H0 H : HP} {L : List SA} {w : World} {qf : Option Addr} {mf cf : Nat} {cellsf : List Value} {k : Int}  (hn : 0 ≤ k ∧ k + 9 * (mf : Nat) ≤ 9223372036854775807) (hH : Hp B H0 H (own 88 9 qf mf cf cellsf :: L) w) :
    Calls Try.prog 26 [.agg [.slice qf mf cf].toArray, .int .i64 k].toArray w fun e w' => e = .returned (.int .i64 (k + 9 * (mf : Nat))) ∧ Hp B H0 H (own 88 9 qf mf cf (tsC (marksT k mf)) :: L) w' := by
  refine CJ.enter Try.func26 rfl 10 rfl rfl [(0, .agg [.slice qf mf cf].toArray), (1, .int .i64 k)] rfl hH ?_
  clear hH
  refine CJ.seq fun _ hK1 _ => ?_
  refine CJ.region ?_
  refine J.box rfl rfl rfl fun g2 => ?_
  refine J.p (PR.assign rfl) rfl ?_
  refine J.nil ?_
  refine EJ.thenN (hK1 ?_)
  refine CJ.seq fun _ hK2 _ => ?_
  refine CJ.region ?_
  refine J.p (PR.fldA u29 rfl sz27 rfl) rfl ?_
  refine J.p (PR.load rfl At.z rfl pl27) rfl ?_
  refine J.p (PR.move rfl) rfl ?_
  refine J.call fn81 rfl rfl fun w hH => (markTermS_c hn (hH.front (.s .z))).mono ?_
  rintro _ w ⟨rfl, hH⟩
  refine ⟨_, rfl, fun a hF => J.of hF hH ?_⟩
  refine J.p (PR.assign rfl) rfl ?_
  refine J.nil ?_
  refine EJ.thenN (hK2 ?_)
  refine CJ.seq fun _ hK3 _ => ?_
  refine CJ.region ?_
  refine J.p (PR.move rfl) rfl ?_
  refine J.p (PR.assign rfl) rfl ?_
  refine J.nil ?_
  refine EJ.thenN (hK3 ?_)
  refine CJ.ret ?_
  refine EJ.ret1 rfl (Res.tmp rfl) fun w hH => ?_
  replace hH := hH.sublist (.cons_cons _ (.cons _ (List.Sublist.refl _)))
  exact ⟨rfl, hH⟩
end Go.Proofs.Ytpojpokldncglaa.G
