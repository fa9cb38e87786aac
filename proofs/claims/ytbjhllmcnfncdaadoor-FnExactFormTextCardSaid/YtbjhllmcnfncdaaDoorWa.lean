/- The walks: what each Go function does, shown from its text. No condition. -/
import Derived.Test.YtbjhllmcnfncdaaDoorGAlg
import Derived.Test.YtbjhllmcnfncdaaDoorProg
set_option linter.unusedVariables false
set_option linter.unusedSimpArgs false
namespace Go.Proofs.YtbjhllmcnfncdaaDoor.G
open Go Go.RowKit
namespace Wa
theorem u2 : Tryd.prog.underlying 2 = some (TypeDesc.int .i64) := by kernel_rfl
theorem u22 : Tryd.prog.underlying 22 = some (TypeDesc.slice 2) := by kernel_rfl
theorem u5 : Tryd.prog.underlying 5 = some (TypeDesc.int .u8) := by kernel_rfl
theorem u64 : Tryd.prog.underlying 64 = some (TypeDesc.array 8 5) := by kernel_rfl
theorem sz2 : Size Tryd.prog 2 1 := by unfold Size; kernel_rfl
theorem sz5 : Size Tryd.prog 5 1 := by unfold Size; kernel_rfl
theorem pl2 : Plain Tryd.prog 2 := ⟨_, u2, rfl⟩
theorem pl5 : Plain Tryd.prog 5 := ⟨_, u5, rfl⟩
theorem ag64 : Agg Tryd.prog 64 8 := ⟨_, u64, rfl, by kernel_rfl⟩
theorem fn49 : Fn Tryd.prog 49 := ⟨_, Tryd.func49, by kernel_rfl, rfl⟩
end Wa
open Wa

/-- how large an exponent may be at place i -/
def most (ds : List Int) (i : Nat) : Int := if i < ds.length then (if (ds.getD i 0).tmod 2 = 1 then 1 else 20) else 0
theorem most_ge {ds : List Int} {k : Nat} (h : (ds.length : Int) ≤ k) : most ds k = 0 := by unfold most; rw [if_neg (by omega)]
theorem most_odd {ds : List Int} {k : Nat} (h : ¬ ((ds.length : Int) ≤ k)) (ho : (ds.getD k 0).tmod 2 ≠ 0) (hp : 0 ≤ ds.getD k 0) : most ds k = 1 := by
  unfold most
  rw [Int.tmod_eq_emod_of_nonneg hp] at ho ⊢
  rw [if_pos (by omega), if_pos (by omega)]
theorem most_even {ds : List Int} {k : Nat} (h : ¬ ((ds.length : Int) ≤ k)) (ho : ¬ (ds.getD k 0).tmod 2 ≠ 0) : most ds k = 20 := by
  unfold most
  rw [if_pos (by omega), if_neg (by omega)]
def isMono (ds m : List Int) : Bool := (List.range 8).all fun i => decide (m.getD i 0 ≤ most ds i)
theorem isMono_false {ds m : List Int} {k : Nat} (hk : k < 8) (h : most ds k < m.getD k 0) : isMono ds m = false := by
  unfold isMono
  rw [List.all_eq_false]
  exact ⟨k, by simp [hk], by rw [decide_eq_true_eq]; omega⟩
theorem isMono_true {ds m : List Int} (h : ∀ j, j < 8 → m.getD j 0 ≤ most ds j) : isMono ds m = true := by
  unfold isMono
  rw [List.all_eq_true]
  intro j hj
  simpa using h j (by simpa using hj)

set_option maxRecDepth 10000 in
theorem within_c {B : World} {H0 H : HP} {L : List SA} {w : World} {x : Int} {lo : Int} {hi : Int}   (hH : Hp B H0 H L w) :
    Calls Tryd.prog 55 [.int .i64 x, .int .i64 lo, .int .i64 hi].toArray w fun e w' => e = .returned (.bool (decide (lo ≤ x) && decide (x ≤ hi))) ∧ Hp B H0 H L w' := by
  refine CJ.enter Tryd.func55 rfl 15 rfl rfl [(0, .int .i64 x), (1, .int .i64 lo), (2, .int .i64 hi)] rfl hH ?_
  clear hH
  refine CJ.seq fun _ hK1 _ => ?_
  refine CJ.region ?_
  refine J.p (PR.assign rfl) rfl ?_
  refine J.nil ?_
  refine EJ.thenN (hK1 ?_)
  refine CJ.seq fun _ hK2 _ => ?_
  refine CJ.region ?_
  refine J.p (PR.move rfl) rfl ?_
  refine J.p (PR.move rfl) rfl ?_
  refine J.p (PR.geq rfl rfl) rfl ?_
  refine J.p (PR.move rfl) rfl ?_
  refine J.splitB (jd := 10) rfl (fun hg10 => ?_) (fun hg10 => ?_)
  ·
    try have hg10p := of_decide_eq_true hg10
    refine J.gy (PR.move rfl) rfl rfl rfl hg10 ?_
    refine J.gy (PR.move rfl) rfl rfl rfl hg10 ?_
    refine J.gy (PR.leq rfl rfl) rfl rfl rfl hg10 ?_
    refine J.p (PR.pickT rfl hg10 rfl) rfl ?_
    refine J.p (PR.assign rfl) rfl ?_
    refine J.nil ?_
    refine EJ.thenN (hK2 ?_)
    refine CJ.ret ?_
    refine EJ.ret1 rfl (Res.tmp rfl) fun w hH => ?_
    exact ⟨by simp [*], hH⟩
  ·
    try have hg10p := of_decide_eq_false hg10
    refine J.gn rfl rfl rfl hg10 ?_
    refine J.gn rfl rfl rfl hg10 ?_
    refine J.gn rfl rfl rfl hg10 ?_
    refine J.p (PR.pickF rfl hg10 rfl) rfl ?_
    refine J.p (PR.assign rfl) rfl ?_
    refine J.nil ?_
    refine EJ.thenN (hK2 ?_)
    refine CJ.ret ?_
    refine EJ.ret1 rfl (Res.tmp rfl) fun w hH => ?_
    exact ⟨by simp [*], hH⟩
set_option maxRecDepth 10000 in
theorem isMonomial_c {B : World} {H0 H : HP} {L : List SA} {w : World} {qds : Option Addr} {cds : Nat} {ds : List Int} {m : List Int}  (hds : Ints H qds ds) (hm : Mono m) (hn : ds.length ≤ 1048576) (hH : Hp B H0 H L w) :
    Calls Tryd.prog 56 [.slice qds ds.length cds, .agg (bytesC m).toArray].toArray w fun e w' => e = .returned (.bool (isMono ds m)) ∧ Hp B H0 H L w' := by
  refine CJ.enter Tryd.func56 rfl 27 rfl rfl [(0, .slice qds ds.length cds), (1, .agg (bytesC m).toArray)] rfl hH ?_
  have hml := hm.len
  clear hH
  refine CJ.seq fun _ hK1 _ => ?_
  refine CJ.region ?_
  refine J.box rfl rfl rfl fun g3 => ?_
  refine J.p (PR.assign rfl) rfl ?_
  refine J.nil ?_
  refine EJ.thenN (hK1 ?_)
  refine CJ.seq fun _ hK2 _ => ?_
  refine CJ.seq fun _ hK3 _ => ?_
  refine CJ.region ?_
  refine J.p (PR.loadAll rfl At.z (by simpa [*] using ag64)) rfl ?_
  refine J.p (PR.move rfl) rfl ?_
  refine J.nil ?_
  refine EJ.thenN (hK3 ?_)
  refine CJ.block ?_
  refine CJ.loopU (σ := Nat) (fun (k : Nat) => [(9, .int .i64 (k : Int))]) (fun (k : Nat) => H) (fun (k : Nat) => obj g3 (.cells (bytesC m).toArray 64 (0, 0)) :: L) (fun (k : Nat) => k ≤ 8 ∧ ∀ j, j < k → m.getD j 0 ≤ most ds j) (fun (k : Nat) => 8 - k) 0 ⟨by omega, fun j hj => by omega⟩ ⟨rfl, trivial⟩ rfl rfl ?_
  rintro k hI _ hAg0
  obtain ⟨hk, hm9⟩ := hI
  have hml := hm.len
  refine CJ.seq fun _ hK4 _ => ?_
  refine CJ.region ?_
  refine J.p (PR.lss rfl rfl) rfl ?_
  refine J.nil ?_
  refine EJ.thenN (hK4 ?_)
  refine CJ.seq fun _ hK5 _ => ?_
  refine CJ.condD rfl (fun hc10 => ?_) (fun hc10 => ?_)
  ·
    refine CJ.skip ?_
    refine EJ.thenN (hK5 ?_)
    refine CJ.seq fun _ hK6 _ => ?_
    refine CJ.block ?_
    refine CJ.seq fun _ hK7 _ => ?_
    refine CJ.region ?_
    refine J.p (PR.move rfl) rfl ?_
    refine J.p (PR.index u64 sz5 pl5 rfl rfl rfl (by omega) (by first | exact bytesC_get (by simp [*]; omega) | exact intsC_get (by simp [*]; omega))) rfl ?_
    refine J.p (PR.assign rfl) rfl ?_
    refine J.p (PR.assign rfl) rfl ?_
    refine J.nil ?_
    refine EJ.thenN (hK7 ?_)
    refine CJ.seq fun _ hK8 _ => ?_
    refine CJ.region ?_
    refine J.p (PR.assign rfl) rfl ?_
    refine J.nil ?_
    refine EJ.thenN (hK8 ?_)
    refine CJ.cutU (σ := Unit) (fun (_ : Unit) => [(7, .int .u8 (most ds k))]) (fun (_ : Unit) => H) (fun (_ : Unit) => obj g3 (.cells (bytesC m).toArray 64 (0, 0)) :: L) (fun (_ : Unit) => True) ?_ ?_
    ·
      intro _ hMt1
      refine CJ.seq fun _ hK9 _ => ?_
      refine CJ.region ?_
      refine J.p (PR.move rfl) rfl ?_
      refine J.p (PR.move rfl) rfl ?_
      refine J.p (PR.lenSlice u22 rfl rfl) rfl ?_
      refine J.p (PR.lss rfl rfl) rfl ?_
      refine J.nil ?_
      refine EJ.thenN (hK9 ?_)
      refine CJ.condD rfl (fun hc16 => ?_) (fun hc16 => ?_)
      ·
        refine CJ.seq fun _ hK10 _ => ?_
        refine CJ.region ?_
        refine J.p (PR.assign rfl) rfl ?_
        refine J.nil ?_
        refine EJ.thenN (hK10 ?_)
        refine CJ.seq fun _ hK11 _ => ?_
        refine CJ.region ?_
        refine J.p (PR.move rfl) rfl ?_
        refine J.p (PR.move rfl) rfl ?_
        refine J.p (PR.idx1 u22 sz2 rfl rfl rfl (by omega) hds.sm) rfl ?_
        refine J.p (PR.loadH rfl (hds _ (by omega)) pl2) rfl ?_
        refine J.p (PR.rem rfl rfl (by decide) rfl) rfl ?_
        refine J.p (PR.eql rfl rfl) rfl ?_
        refine J.nil ?_
        refine EJ.thenN (hK11 ?_)
        refine CJ.condD rfl (fun hc22 => ?_) (fun hc22 => ?_)
        ·
          refine CJ.region ?_
          refine J.p (PR.assign rfl) rfl ?_
          refine J.nil ?_
          refine EJ.thenN ?_
          exact hMt1 () trivial 12 rfl rfl ⟨(vi8 (by unfold most; rw [if_pos (by omega), if_pos hc22])), trivial⟩ rfl rfl
        ·
          refine CJ.skip ?_
          refine EJ.thenN ?_
          exact hMt1 () trivial 11 rfl rfl ⟨(vi8 (by unfold most; rw [if_pos (by omega), if_neg hc22])), trivial⟩ rfl rfl
      ·
        refine CJ.skip ?_
        refine EJ.thenN ?_
        exact hMt1 () trivial 4 rfl rfl ⟨(vi8 (by unfold most; rw [if_neg (by omega)])), trivial⟩ rfl rfl
    ·
      rintro _ _
      refine CJ.seq fun _ hK12 _ => ?_
      refine CJ.region ?_
      refine J.p (PR.move rfl) rfl ?_
      refine J.p (PR.move rfl) rfl ?_
      refine J.p (PR.gtr rfl rfl) rfl ?_
      refine J.nil ?_
      refine EJ.thenN (hK12 ?_)
      refine CJ.condD rfl (fun hc25 => ?_) (fun hc25 => ?_)
      ·
        refine CJ.seq fun _ hK13 _ => ?_
        refine CJ.region ?_
        refine J.p (PR.assign rfl) rfl ?_
        refine J.nil ?_
        refine EJ.thenN (hK13 ?_)
        refine CJ.ret ?_
        refine EJ.inR ?_
        refine EJ.thenR ?_
        refine EJ.thenR ?_
        refine EJ.inR ?_
        refine EJ.thenR ?_
        refine EJ.ret1 rfl (Res.tmp rfl) fun w hH => ?_
        replace hH := hH.tail
        exact ⟨by rw [isMono_false (k := k) (by omega) (by omega)], hH⟩
      ·
        refine CJ.skip ?_
        refine EJ.inN ?_
        refine EJ.thenN (hK6 ?_)
        refine CJ.region ?_
        refine J.p (PR.add rfl rfl (by first | exact nw _ (by omega) | rfl)) rfl ?_
        refine J.p (PR.move rfl) rfl ?_
        refine J.nil ?_
        refine EJ.thenN ?_
        exact hAg0 (k + 1) ⟨by omega, fun j hj => by rcases Nat.lt_or_ge j k with h | h; exact hm9 j h; obtain rfl : j = k := (by omega); omega⟩ (by omega) 13 rfl rfl ⟨rfl, trivial⟩ rfl rfl
  ·
    refine CJ.exit ?_
    refine EJ.thenE ?_
    refine EJ.thenE ?_
    refine EJ.inE ?_
    refine EJ.thenN (hK2 ?_)
    refine CJ.seq fun _ hK14 _ => ?_
    refine CJ.region ?_
    refine J.p (PR.assign rfl) rfl ?_
    refine J.nil ?_
    refine EJ.thenN (hK14 ?_)
    refine CJ.ret ?_
    refine EJ.ret1 rfl (Res.tmp rfl) fun w hH => ?_
    replace hH := hH.tail
    exact ⟨by rw [isMono_true (fun j hj => hm9 j (by omega))], hH⟩

def isDeg (ds : List Int) : Bool := decide (ds.length ≤ 8) && ds.all fun x => decide (1 ≤ x) && decide (x ≤ 12)
theorem all_false {ds : List Int} {p : Int → Bool} {k : Nat} (hk : k < ds.length) (h : p (ds.getD k 0) = false) : ds.all p = false := by
  rw [List.all_eq_false]
  exact ⟨ds.getD k 0, by rw [List.getD_eq_getElem?_getD, List.getElem?_eq_getElem hk]; exact List.getElem_mem hk, by rw [h]; simp⟩
theorem all_true {ds : List Int} {p : Int → Bool} (h : ∀ j, j < ds.length → p (ds.getD j 0) = true) : ds.all p = true := by
  rw [List.all_eq_true]
  intro x hx
  obtain ⟨j, hj, rfl⟩ := List.mem_iff_getElem.1 hx
  have := h j hj
  rwa [List.getD_eq_getElem?_getD, List.getElem?_eq_getElem hj] at this
theorem isDeg_false {ds : List Int} {k : Nat} (hk : k < ds.length) (h : (decide (1 ≤ ds.getD k 0) && decide (ds.getD k 0 ≤ 12)) = false) : isDeg ds = false := by
  unfold isDeg
  rw [all_false hk h, Bool.and_false]
theorem isDeg_true {ds : List Int} (h : ∀ j, j < ds.length → (decide (1 ≤ ds.getD j 0) && decide (ds.getD j 0 ≤ 12)) = true) : isDeg ds = decide ((ds.length : Int) ≤ 8) := by
  unfold isDeg
  rw [all_true h, Bool.and_true]
  exact decide_eq_decide.2 (by omega)
theorem upto {p : Nat → Prop} {k : Nat} (h : ∀ j, j < k → p j) (hk : p k) : ∀ j, j < k + 1 → p j := fun j hj => by
  rcases Nat.lt_or_ge j k with h1 | h1
  · exact h j h1
  · obtain rfl : j = k := by omega
    exact hk

set_option maxRecDepth 10000 in
theorem l01In_c {B : World} {H0 H : HP} {L : List SA} {w : World} {x : Int} {lo : Int} {hi : Int}   (hH : Hp B H0 H L w) :
    Calls Tryd.prog 49 [.int .i64 x, .int .i64 lo, .int .i64 hi].toArray w fun e w' => e = .returned (.bool (decide (lo ≤ x) && decide (x ≤ hi))) ∧ Hp B H0 H L w' := by
  refine CJ.enter Tryd.func49 rfl 15 rfl rfl [(0, .int .i64 x), (1, .int .i64 lo), (2, .int .i64 hi)] rfl hH ?_
  clear hH
  refine CJ.seq fun _ hK1 _ => ?_
  refine CJ.region ?_
  refine J.p (PR.assign rfl) rfl ?_
  refine J.nil ?_
  refine EJ.thenN (hK1 ?_)
  refine CJ.seq fun _ hK2 _ => ?_
  refine CJ.region ?_
  refine J.p (PR.move rfl) rfl ?_
  refine J.p (PR.move rfl) rfl ?_
  refine J.p (PR.geq rfl rfl) rfl ?_
  refine J.p (PR.move rfl) rfl ?_
  refine J.splitB (jd := 10) rfl (fun hg10 => ?_) (fun hg10 => ?_)
  ·
    try have hg10p := of_decide_eq_true hg10
    refine J.gy (PR.move rfl) rfl rfl rfl hg10 ?_
    refine J.gy (PR.move rfl) rfl rfl rfl hg10 ?_
    refine J.gy (PR.leq rfl rfl) rfl rfl rfl hg10 ?_
    refine J.p (PR.pickT rfl hg10 rfl) rfl ?_
    refine J.p (PR.assign rfl) rfl ?_
    refine J.nil ?_
    refine EJ.thenN (hK2 ?_)
    refine CJ.ret ?_
    refine EJ.ret1 rfl (Res.tmp rfl) fun w hH => ?_
    exact ⟨by simp [*], hH⟩
  ·
    try have hg10p := of_decide_eq_false hg10
    refine J.gn rfl rfl rfl hg10 ?_
    refine J.gn rfl rfl rfl hg10 ?_
    refine J.gn rfl rfl rfl hg10 ?_
    refine J.p (PR.pickF rfl hg10 rfl) rfl ?_
    refine J.p (PR.assign rfl) rfl ?_
    refine J.nil ?_
    refine EJ.thenN (hK2 ?_)
    refine CJ.ret ?_
    refine EJ.ret1 rfl (Res.tmp rfl) fun w hH => ?_
    exact ⟨by simp [*], hH⟩
set_option maxRecDepth 10000 in
theorem l01Degrees_c {B : World} {H0 H : HP} {L : List SA} {w : World} {qds : Option Addr} {cds : Nat} {ds : List Int}  (hds : Ints H qds ds) (hn : ds.length ≤ 1048576) (hH : Hp B H0 H L w) :
    Calls Tryd.prog 32 [.slice qds ds.length cds].toArray w fun e w' => e = .returned (.bool (isDeg ds)) ∧ Hp B H0 H L w' := by
  refine CJ.enter Tryd.func32 rfl 19 rfl rfl [(0, .slice qds ds.length cds)] rfl hH ?_
  clear hH
  refine CJ.seq fun _ hK1 _ => ?_
  refine CJ.region ?_
  refine J.p (PR.assign rfl) rfl ?_
  refine J.nil ?_
  refine EJ.thenN (hK1 ?_)
  refine CJ.seq fun _ hK2 _ => ?_
  refine CJ.seq fun _ hK3 _ => ?_
  refine CJ.region ?_
  refine J.p (PR.assign rfl) rfl ?_
  refine J.nil ?_
  refine EJ.thenN (hK3 ?_)
  refine CJ.block ?_
  refine CJ.loopU (σ := Nat) (fun (k : Nat) => [(3, .int .i64 (k : Int))]) (fun (k : Nat) => H) (fun (k : Nat) => L) (fun (k : Nat) => k ≤ ds.length ∧ ∀ j, j < k → (decide (1 ≤ ds.getD j 0) && decide (ds.getD j 0 ≤ 12)) = true) (fun (k : Nat) => ds.length - k) 0 ⟨by omega, fun j hj => by omega⟩ ⟨rfl, trivial⟩ rfl rfl ?_
  rintro k hI _ hAg0
  have hk := hI.1
  refine CJ.seq fun _ hK4 _ => ?_
  refine CJ.seq fun _ hK5 _ => ?_
  refine CJ.region ?_
  refine J.p (PR.move rfl) rfl ?_
  refine J.p (PR.move rfl) rfl ?_
  refine J.p (PR.lenSlice u22 rfl rfl) rfl ?_
  refine J.p (PR.lss rfl rfl) rfl ?_
  refine J.nil ?_
  refine EJ.thenN (hK5 ?_)
  refine CJ.condD rfl (fun hc7 => ?_) (fun hc7 => ?_)
  ·
    refine CJ.skip ?_
    refine EJ.thenN (hK4 ?_)
    refine CJ.seq fun _ hK6 _ => ?_
    refine CJ.block ?_
    refine CJ.seq fun _ hK7 _ => ?_
    refine CJ.region ?_
    refine J.p (PR.move rfl) rfl ?_
    refine J.p (PR.move rfl) rfl ?_
    refine J.p (PR.idx1 u22 sz2 rfl rfl rfl (by omega) hds.sm) rfl ?_
    refine J.p (PR.loadH rfl (hds _ (by omega)) pl2) rfl ?_
    refine J.call fn49 rfl rfl fun w hH => (l01In_c  hH).mono ?_
    rintro _ w ⟨rfl, hH⟩
    refine ⟨_, rfl, fun a hF => J.of hF hH ?_⟩
    refine J.p (PR.not rfl) rfl ?_
    refine J.nil ?_
    refine EJ.thenN (hK7 ?_)
    refine CJ.cond rfl (fun hc => ?_) (fun hc => ?_)
    ·
      refine CJ.seq fun _ hK8 _ => ?_
      refine CJ.region ?_
      refine J.p (PR.assign rfl) rfl ?_
      refine J.nil ?_
      refine EJ.thenN (hK8 ?_)
      refine CJ.ret ?_
      refine EJ.inR ?_
      refine EJ.thenR ?_
      refine EJ.thenR ?_
      refine EJ.inR ?_
      refine EJ.thenR ?_
      refine EJ.ret1 rfl (Res.tmp rfl) fun w hH => ?_
      exact ⟨rb (isDeg_false (k := k) (by omega) (nott hc)).symm, hH⟩
    ·
      refine CJ.skip ?_
      refine EJ.inN ?_
      refine EJ.thenN (hK6 ?_)
      refine CJ.region ?_
      refine J.p (PR.move rfl) rfl ?_
      refine J.p (PR.add rfl rfl (by first | exact nw _ (by omega) | rfl)) rfl ?_
      refine J.p (PR.assign rfl) rfl ?_
      refine J.nil ?_
      refine EJ.thenN ?_
      exact hAg0 (k + 1) ⟨by omega, upto hI.2 (notf hc)⟩ (by omega) 14 rfl rfl ⟨rfl, trivial⟩ rfl rfl
  ·
    refine CJ.exit ?_
    refine EJ.thenE ?_
    refine EJ.thenE ?_
    refine EJ.inE ?_
    refine EJ.thenN (hK2 ?_)
    refine CJ.seq fun _ hK9 _ => ?_
    refine CJ.region ?_
    refine J.p (PR.move rfl) rfl ?_
    refine J.p (PR.lenSlice u22 rfl rfl) rfl ?_
    refine J.p (PR.leq rfl rfl) rfl ?_
    refine J.p (PR.assign rfl) rfl ?_
    refine J.nil ?_
    refine EJ.thenN (hK9 ?_)
    refine CJ.ret ?_
    refine EJ.ret1 rfl (Res.tmp rfl) fun w hH => ?_
    exact ⟨rb (isDeg_true (fun j hj => hI.2 j (by omega))).symm, hH⟩
set_option maxRecDepth 10000 in
theorem l01Mono_c {B : World} {H0 H : HP} {L : List SA} {w : World} {qds : Option Addr} {cds : Nat} {ds : List Int} {m : List Int}  (hds : Ints H qds ds) (hm : Mono m) (hn : ds.length ≤ 1048576) (hp : ∀ j, j < ds.length → 0 ≤ ds.getD j 0) (hH : Hp B H0 H L w) :
    Calls Tryd.prog 50 [.slice qds ds.length cds, .agg (bytesC m).toArray].toArray w fun e w' => e = .returned (.bool (isMono ds m)) ∧ Hp B H0 H L w' := by
  refine CJ.enter Tryd.func50 rfl 38 rfl rfl [(0, .slice qds ds.length cds), (1, .agg (bytesC m).toArray)] rfl hH ?_
  have hml := hm.len
  clear hH
  refine CJ.seq fun _ hK1 _ => ?_
  refine CJ.region ?_
  refine J.box rfl rfl rfl fun g3 => ?_
  refine J.p (PR.assign rfl) rfl ?_
  refine J.nil ?_
  refine EJ.thenN (hK1 ?_)
  refine CJ.seq fun _ hK2 _ => ?_
  refine CJ.seq fun _ hK3 _ => ?_
  refine CJ.region ?_
  refine J.p (PR.assign rfl) rfl ?_
  refine J.nil ?_
  refine EJ.thenN (hK3 ?_)
  refine CJ.block ?_
  refine CJ.loopU (σ := Nat) (fun (k : Nat) => [(5, .int .i64 (k : Int))]) (fun (k : Nat) => H) (fun (k : Nat) => obj g3 (.cells (bytesC m).toArray 64 (0, 0)) :: L) (fun (k : Nat) => k ≤ 8 ∧ ∀ j, j < k → m.getD j 0 ≤ most ds j) (fun (k : Nat) => 8 - k) 0 ⟨by omega, fun j hj => by omega⟩ ⟨rfl, trivial⟩ rfl rfl ?_
  rintro k hI _ hAg0
  have hk := hI.1
  refine CJ.seq fun _ hK4 _ => ?_
  refine CJ.seq fun _ hK5 _ => ?_
  refine CJ.region ?_
  refine J.p (PR.move rfl) rfl ?_
  refine J.p (PR.lss rfl rfl) rfl ?_
  refine J.nil ?_
  refine EJ.thenN (hK5 ?_)
  refine CJ.condD rfl (fun hc7 => ?_) (fun hc7 => ?_)
  ·
    refine CJ.skip ?_
    refine EJ.thenN (hK4 ?_)
    refine CJ.seq fun _ hK6 _ => ?_
    refine CJ.block ?_
    refine CJ.block ?_
    refine CJ.seq fun _ hK7 _ => ?_
    refine CJ.region ?_
    refine J.p (PR.move rfl) rfl ?_
    refine J.p (PR.move rfl) rfl ?_
    refine J.p (PR.lenSlice u22 rfl rfl) rfl ?_
    refine J.p (PR.geq rfl rfl) rfl ?_
    refine J.p (PR.assign rfl) rfl ?_
    refine J.nil ?_
    refine EJ.thenN (hK7 ?_)
    refine CJ.condD rfl (fun h10 => ?_) (fun h10 => ?_)
    ·
      refine CJ.seq fun _ hK8 _ => ?_
      refine CJ.region ?_
      refine J.p (PR.move rfl) rfl ?_
      refine J.p (PR.idxA1 u64 sz5 rfl rfl rfl (by omega)) rfl ?_
      refine J.p (PR.load rfl At.z (by first | exact bytesC_get (by simp [*]; omega) | exact intsC_get (by simp [*]; omega)) pl5) rfl ?_
      refine J.p (PR.neq rfl rfl) rfl ?_
      refine J.nil ?_
      refine EJ.thenN (hK8 ?_)
      refine CJ.condD rfl (fun h18 => ?_) (fun h18 => ?_)
      ·
        refine CJ.seq fun _ hK9 _ => ?_
        refine CJ.region ?_
        refine J.p (PR.assign rfl) rfl ?_
        refine J.nil ?_
        refine EJ.thenN (hK9 ?_)
        refine CJ.ret ?_
        refine EJ.inR ?_
        refine EJ.inR ?_
        refine EJ.thenR ?_
        refine EJ.thenR ?_
        refine EJ.inR ?_
        refine EJ.thenR ?_
        refine EJ.ret1 rfl (Res.tmp rfl) fun w hH => ?_
        replace hH := hH.tail
        exact ⟨rb (isMono_false (k := k) (by omega) (by rw [most_ge h10]; have := (hm.bd k).1; omega)).symm, hH⟩
      ·
        refine CJ.skip ?_
        refine EJ.inN ?_
        refine EJ.inN ?_
        refine EJ.thenN (hK6 ?_)
        refine CJ.region ?_
        refine J.p (PR.move rfl) rfl ?_
        refine J.p (PR.add rfl rfl (by first | exact nw _ (by omega) | rfl)) rfl ?_
        refine J.p (PR.assign rfl) rfl ?_
        refine J.nil ?_
        refine EJ.thenN ?_
        exact hAg0 (k + 1) ⟨by omega, upto hI.2 (by rw [most_ge h10]; omega)⟩ (by omega) 15 rfl rfl ⟨rfl, trivial⟩ rfl rfl
    ·
      refine CJ.seq fun _ hK10 _ => ?_
      refine CJ.region ?_
      refine J.p (PR.move rfl) rfl ?_
      refine J.p (PR.idxA1 u64 sz5 rfl rfl rfl (by omega)) rfl ?_
      refine J.p (PR.load rfl At.z (by first | exact bytesC_get (by simp [*]; omega) | exact intsC_get (by simp [*]; omega)) pl5) rfl ?_
      refine J.p (PR.gtr rfl rfl) rfl ?_
      refine J.p (PR.move rfl) rfl ?_
      refine J.splitB (jd := 24) rfl (fun h24 => ?_) (fun h24 => ?_)
      ·
        try have h24p := of_decide_eq_true h24
        refine J.gn rfl rfl rfl h24 ?_
        refine J.gn rfl rfl rfl h24 ?_
        refine J.gn rfl rfl rfl h24 ?_
        refine J.gn rfl rfl rfl h24 ?_
        refine J.gn rfl rfl rfl h24 ?_
        refine J.gn rfl rfl rfl h24 ?_
        refine J.gn rfl rfl rfl h24 ?_
        refine J.gu rfl rfl rfl ?_
        refine J.gu rfl rfl rfl ?_
        refine J.gu rfl rfl rfl ?_
        refine J.gu rfl rfl rfl ?_
        refine J.gn rfl rfl rfl h24 ?_
        refine J.p (PR.pickT rfl h24 rfl) rfl ?_
        refine J.p (PR.assign rfl) rfl ?_
        refine J.nil ?_
        refine EJ.thenN (hK10 ?_)
        refine CJ.condT rfl ?_
        refine CJ.seq fun _ hK11 _ => ?_
        refine CJ.region ?_
        refine J.p (PR.assign rfl) rfl ?_
        refine J.nil ?_
        refine EJ.thenN (hK11 ?_)
        refine CJ.ret ?_
        refine EJ.inR ?_
        refine EJ.inR ?_
        refine EJ.thenR ?_
        refine EJ.thenR ?_
        refine EJ.inR ?_
        refine EJ.thenR ?_
        refine EJ.ret1 rfl (Res.tmp rfl) fun w hH => ?_
        replace hH := hH.tail
        exact ⟨rb (isMono_false (k := k) (by omega) (by have : most ds k ≤ 20 := (by unfold most; split <;> (try split) <;> omega); omega)).symm, hH⟩
      ·
        try have h24p := of_decide_eq_false h24
        refine J.gy (PR.move rfl) rfl rfl rfl h24 ?_
        refine J.gy (PR.move rfl) rfl rfl rfl h24 ?_
        refine J.gy (PR.idx1 u22 sz2 rfl rfl rfl (by omega) hds.sm) rfl rfl rfl h24 ?_
        refine J.gy (PR.loadH rfl (hds _ (by omega)) pl2) rfl rfl rfl h24 ?_
        refine J.gy (PR.rem rfl rfl (by decide) rfl) rfl rfl rfl h24 ?_
        refine J.gy (PR.neq rfl rfl) rfl rfl rfl h24 ?_
        refine J.gy (PR.move rfl) rfl rfl rfl h24 ?_
        refine J.splitB (jd := 31) rfl (fun h31 => ?_) (fun h31 => ?_)
        ·
          try have h31p := of_decide_eq_true h31
          refine J.gy (PR.move rfl) rfl rfl rfl h31 ?_
          refine J.gy (PR.idxA1 u64 sz5 rfl rfl rfl (by omega)) rfl rfl rfl h31 ?_
          refine J.gy (PR.load rfl At.z (by first | exact bytesC_get (by simp [*]; omega) | exact intsC_get (by simp [*]; omega)) pl5) rfl rfl rfl h31 ?_
          refine J.gy (PR.gtr rfl rfl) rfl rfl rfl h31 ?_
          refine J.gy (PR.pickT rfl h31 rfl) rfl rfl rfl h24 ?_
          refine J.p (PR.pickF rfl h24 rfl) rfl ?_
          refine J.p (PR.assign rfl) rfl ?_
          refine J.nil ?_
          refine EJ.thenN (hK10 ?_)
          refine CJ.condD rfl (fun h19 => ?_) (fun h19 => ?_)
          ·
            refine CJ.seq fun _ hK12 _ => ?_
            refine CJ.region ?_
            refine J.p (PR.assign rfl) rfl ?_
            refine J.nil ?_
            refine EJ.thenN (hK12 ?_)
            refine CJ.ret ?_
            refine EJ.inR ?_
            refine EJ.inR ?_
            refine EJ.thenR ?_
            refine EJ.thenR ?_
            refine EJ.inR ?_
            refine EJ.thenR ?_
            refine EJ.ret1 rfl (Res.tmp rfl) fun w hH => ?_
            replace hH := hH.tail
            exact ⟨rb (isMono_false (k := k) (by omega) (by rw [most_odd h10 h31p (hp k (by omega))]; omega)).symm, hH⟩
          ·
            refine CJ.skip ?_
            refine EJ.inN ?_
            refine EJ.inN ?_
            refine EJ.thenN (hK6 ?_)
            refine CJ.region ?_
            refine J.p (PR.move rfl) rfl ?_
            refine J.p (PR.add rfl rfl (by first | exact nw _ (by omega) | rfl)) rfl ?_
            refine J.p (PR.assign rfl) rfl ?_
            refine J.nil ?_
            refine EJ.thenN ?_
            exact hAg0 (k + 1) ⟨by omega, upto hI.2 (by rw [most_odd h10 h31p (hp k (by omega))]; omega)⟩ (by omega) 30 rfl rfl ⟨rfl, trivial⟩ rfl rfl
        ·
          try have h31p := of_decide_eq_false h31
          refine J.gn rfl rfl rfl h31 ?_
          refine J.gn rfl rfl rfl h31 ?_
          refine J.gn rfl rfl rfl h31 ?_
          refine J.gn rfl rfl rfl h31 ?_
          refine J.gy (PR.pickF rfl h31 rfl) rfl rfl rfl h24 ?_
          refine J.p (PR.pickF rfl h24 rfl) rfl ?_
          refine J.p (PR.assign rfl) rfl ?_
          refine J.nil ?_
          refine EJ.thenN (hK10 ?_)
          refine CJ.condF rfl ?_
          refine CJ.skip ?_
          refine EJ.inN ?_
          refine EJ.inN ?_
          refine EJ.thenN (hK6 ?_)
          refine CJ.region ?_
          refine J.p (PR.move rfl) rfl ?_
          refine J.p (PR.add rfl rfl (by first | exact nw _ (by omega) | rfl)) rfl ?_
          refine J.p (PR.assign rfl) rfl ?_
          refine J.nil ?_
          refine EJ.thenN ?_
          exact hAg0 (k + 1) ⟨by omega, upto hI.2 (by rw [most_even h10 h31p]; omega)⟩ (by omega) 30 rfl rfl ⟨rfl, trivial⟩ rfl rfl
  ·
    refine CJ.exit ?_
    refine EJ.thenE ?_
    refine EJ.thenE ?_
    refine EJ.inE ?_
    refine EJ.thenN (hK2 ?_)
    refine CJ.seq fun _ hK13 _ => ?_
    refine CJ.region ?_
    refine J.p (PR.assign rfl) rfl ?_
    refine J.nil ?_
    refine EJ.thenN (hK13 ?_)
    refine CJ.ret ?_
    refine EJ.ret1 rfl (Res.tmp rfl) fun w hH => ?_
    replace hH := hH.tail
    exact ⟨rb (isMono_true (fun j hj => hI.2 j (by omega))).symm, hH⟩
end Go.Proofs.YtbjhllmcnfncdaaDoor.G
