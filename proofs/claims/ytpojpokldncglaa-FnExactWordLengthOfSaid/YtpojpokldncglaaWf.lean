/- The walks: what each Go function does, shown from its text. No condition. -/
import Derived.Test.YtpojpokldncglaaGAlg
import Derived.Test.YtpojpokldncglaaProg
import Derived.Test.YtpojpokldncglaaWa
import Derived.Test.YtpojpokldncglaaWb
import Derived.Test.YtpojpokldncglaaWc
import Derived.Test.YtpojpokldncglaaWd
import Derived.Test.YtpojpokldncglaaWe
set_option linter.unusedVariables false
set_option linter.unusedSimpArgs false
namespace Go.Proofs.Ytpojpokldncglaa.G
open Go Go.RowKit
namespace Wf
theorem u27 : Try.prog.underlying 27 = some (TypeDesc.slice 88) := by kernel_rfl
theorem u29 : Try.prog.underlying 29 = some (TypeDesc.struct #[{ name := "Terms", type := 27, offset := 0, embedded := false, tag := "", pkgPath := "", byteOffset := 0 }]) := by kernel_rfl
theorem u86 : Try.prog.underlying 86 = some (TypeDesc.array 8 5) := by kernel_rfl
theorem u88 : Try.prog.underlying 88 = some (TypeDesc.struct #[{ name := "Monomial", type := 86, offset := 0, embedded := false, tag := "", pkgPath := "", byteOffset := 0 }, { name := "Factor", type := 2, offset := 8, embedded := false, tag := "", pkgPath := "", byteOffset := 8 }]) := by kernel_rfl
theorem sz27 : Size Try.prog 27 1 := by unfold Size; kernel_rfl
theorem sz86 : Size Try.prog 86 8 := by unfold Size; kernel_rfl
theorem sz88 : Size Try.prog 88 9 := by unfold Size; kernel_rfl
theorem ze88 : Zero Try.prog 88 [.int .u8 0, .int .u8 0, .int .u8 0, .int .u8 0, .int .u8 0, .int .u8 0, .int .u8 0, .int .u8 0, .int .i64 0] := by unfold Zero; kernel_rfl
theorem pl27 : Plain Try.prog 27 := ⟨_, u27, rfl⟩
theorem ag86 : Agg Try.prog 86 8 := ⟨_, u86, rfl, by kernel_rfl⟩
theorem ag88 : Agg Try.prog 88 9 := ⟨_, u88, rfl, by kernel_rfl⟩
theorem fn134 : Fn Try.prog 134 := ⟨_, Try.func134, by kernel_rfl, rfl⟩
theorem fn72 : Fn Try.prog 72 := ⟨_, Try.func72, by kernel_rfl, rfl⟩
theorem fn79 : Fn Try.prog 79 := ⟨_, Try.func79, by kernel_rfl, rfl⟩
end Wf
open Wf

/-- the degree of the term at i -/
def wd (ds : List Int) (ts : List Term) (i : Nat) : Int := wsum ds (tm ts i).mono ds.length
theorem wd_bd {ds : List Int} {ts : List Term} {i : Nat} (hn : ds.length ≤ 8) (hd : ∀ j, 0 ≤ ds.getD j 0 ∧ ds.getD j 0 ≤ 12) (hw : Mono (tm ts i).mono) : 0 ≤ wd ds ts i ∧ wd ds ts i ≤ 24480 := by
  have h := wsum_bd hd hw.bd ds.length
  unfold wd
  omega
def outAt (ds : List Int) (ts : List Term) (k : Nat) : Int := if k = 0 then -1 else wd ds ts 0
theorem outAt_pos {ds : List Int} {ts : List Term} {k : Nat} (h : outAt ds ts k ≥ 0) : 0 < k ∧ outAt ds ts k = wd ds ts 0 := by
  unfold outAt at h ⊢
  by_cases e : k = 0
  · rw [if_pos e] at h; omega
  · exact ⟨by omega, if_neg e⟩
theorem outAt_neg {ds : List Int} {ts : List Term} {k : Nat} (h0 : 0 ≤ wd ds ts 0) (h : ¬ outAt ds ts k ≥ 0) : k = 0 := by
  unfold outAt at h
  by_cases e : k = 0
  · exact e
  · rw [if_neg e] at h; omega
theorem outAt_succ {ds : List Int} {ts : List Term} {k : Nat} (h : wd ds ts k = wd ds ts 0) : wd ds ts k = outAt ds ts (k + 1) := by unfold outAt; rw [if_neg (by omega), h]
/-- homogeneous -/
def homog (ds : List Int) (ts : List Term) : Bool := (List.range ts.length).all fun i => decide (wd ds ts i = wd ds ts 0)
def degF (ds : List Int) (ts : List Term) : Int := if homog ds ts then outAt ds ts ts.length else 0
theorem homog_no {ds : List Int} {ts : List Term} {k : Nat} (hk : k < ts.length) (h : wd ds ts k ≠ wd ds ts 0) : homog ds ts = false := by
  unfold homog
  exact List.all_eq_false.2 ⟨k, by simpa using hk, by simpa using h⟩
theorem homog_yes {ds : List Int} {ts : List Term} (h : ∀ j, j < ts.length → wd ds ts j = wd ds ts 0) : homog ds ts = true := by
  unfold homog
  exact List.all_eq_true.2 fun j hj => by simpa using h j (by simpa using hj)
theorem degRet {ds : List Int} {ts : List Term} {v : Int} {b : Bool} (hb : homog ds ts = b) (hv : v = if b then outAt ds ts ts.length else 0) : Ending.returned (.tuple #[.int .i64 v, .bool b]) = .returned (.tuple #[.int .i64 (degF ds ts), .bool (homog ds ts)]) := by
  rw [hv, degF, hb]

set_option maxRecDepth 10000 in
theorem degreeOf_c {B : World} {H0 H : HP} {L : List SA} {w : World} {qds : Option Addr} {cds : Nat} {ds : List Int} {qts : Option Addr} {cts : Nat} {ts : List Term}  (hds : Ints H qds ds) (hts : Terms H qts ts) (hn : ds.length ≤ 8) (hd : ∀ j, 0 ≤ ds.getD j 0 ∧ ds.getD j 0 ≤ 12) (hl : ts.length ≤ 9223372036854775807) (hH : Hp B H0 H L w) :
    Calls Try.prog 142 [.slice qds ds.length cds, .agg [.slice qts ts.length cts].toArray].toArray w fun e w' => e = .returned (.tuple #[.int .i64 (degF ds ts), .bool (homog ds ts)]) ∧ Hp B H0 H L w' := by
  refine CJ.enter Try.func142 rfl 32 rfl rfl [(0, .slice qds ds.length cds), (1, .agg [.slice qts ts.length cts].toArray)] rfl hH ?_
  clear hH
  refine CJ.seq fun _ hK1 _ => ?_
  refine CJ.region ?_
  refine J.box rfl rfl rfl fun g3 => ?_
  refine J.p (PR.assign rfl) rfl ?_
  refine J.p (PR.assign rfl) rfl ?_
  refine J.nil ?_
  refine EJ.thenN (hK1 ?_)
  refine CJ.seq fun _ hK2 _ => ?_
  refine CJ.region ?_
  refine J.p (PR.assign rfl) rfl ?_
  refine J.nil ?_
  refine EJ.thenN (hK2 ?_)
  refine CJ.seq fun _ hK3 _ => ?_
  refine CJ.seq fun _ hK4 _ => ?_
  refine CJ.region ?_
  refine J.p (PR.fldA u29 rfl sz27 rfl) rfl ?_
  refine J.p (PR.load rfl At.z rfl pl27) rfl ?_
  refine J.p (PR.lenSlice u27 rfl rfl) rfl ?_
  refine J.p (PR.move rfl) rfl ?_
  refine J.nil ?_
  refine EJ.thenN (hK4 ?_)
  refine CJ.block ?_
  refine CJ.loopU (σ := Nat) (fun (k : Nat) => [(13, .int .i64 (k : Int)), (6, .int .i64 (outAt ds ts k))]) (fun (k : Nat) => H) (fun (k : Nat) => obj g3 (.cells [.slice qts ts.length cts].toArray 29 (0, 0)) :: L) (fun (k : Nat) => k ≤ ts.length ∧ ∀ j, j < k → wd ds ts j = wd ds ts 0) (fun (k : Nat) => ts.length - k) 0 ⟨by omega, fun j hj => by omega⟩ ⟨rfl, ⟨rfl, trivial⟩⟩ rfl rfl ?_
  rintro k hI _ hAg0
  have hk := hI.1
  refine CJ.seq fun _ hK5 _ => ?_
  refine CJ.region ?_
  refine J.p (PR.lss rfl rfl) rfl ?_
  refine J.nil ?_
  refine EJ.thenN (hK5 ?_)
  refine CJ.seq fun _ hK6 _ => ?_
  refine CJ.condD rfl (fun hc14 => ?_) (fun hc14 => ?_)
  ·
    refine CJ.skip ?_
    refine EJ.thenN (hK6 ?_)
    refine CJ.seq fun _ hK7 _ => ?_
    refine CJ.block ?_
    refine CJ.seq fun _ hK8 _ => ?_
    refine CJ.region ?_
    refine J.p (PR.idx u27 sz88 rfl rfl rfl (by omega) hts.sm) rfl ?_
    refine J.p (PR.loadHagg rfl (hts.cell _ (by omega)) (hts.sm (i := k) (by omega)) (by rw [Term.c_length (hts.wf _ (by omega))]; exact ag88)) rfl ?_
    refine J.alloc (cs := (default : Term).c) ze88 rfl fun g8 => ?_
    refine J.stTerm rfl rfl sz88 zero_wf (hts.wf k (by omega)) At.z ?_
    refine J.nil ?_
    refine EJ.thenN (hK8 ?_)
    refine CJ.seq fun _ hK9 _ => ?_
    refine CJ.region ?_
    refine J.p (PR.fldA u88 rfl sz86 rfl) rfl ?_
    refine J.p (PR.ldMono rfl At.z (hts.wf k (by omega)) ag86) rfl ?_
    refine J.call fn134 rfl rfl fun w hH => (powerOf_c (hts.wf k (by omega)).mono hH).mono ?_
    rintro _ w ⟨rfl, hH⟩
    refine ⟨_, rfl, fun a hF => J.of hF hH ?_⟩
    refine J.p (PR.move rfl) rfl ?_
    refine J.call fn79 rfl rfl fun w hH => (degree_c (hts.wf k (by omega)).mono.len hds hn hd (hts.wf k (by omega)).mono.small hH).mono ?_
    rintro _ w ⟨rfl, hH⟩
    refine ⟨_, rfl, fun a hF => J.of hF hH ?_⟩
    refine J.p (PR.assign rfl) rfl ?_
    refine J.nil ?_
    refine EJ.thenN (hK9 ?_)
    refine CJ.seq fun _ hK10 _ => ?_
    refine CJ.seq fun _ hK11 _ => ?_
    refine CJ.region ?_
    refine J.p (PR.move rfl) rfl ?_
    refine J.p (PR.geq rfl rfl) rfl ?_
    refine J.p (PR.move rfl) rfl ?_
    refine J.splitB (jd := 24) rfl (fun h24 => ?_) (fun h24 => ?_)
    ·
      try have h24p := of_decide_eq_true h24
      refine J.gy (PR.move rfl) rfl rfl rfl h24 ?_
      refine J.gy (PR.move rfl) rfl rfl rfl h24 ?_
      refine J.gy (PR.neq rfl rfl) rfl rfl rfl h24 ?_
      refine J.p (PR.pickT rfl h24 rfl) rfl ?_
      refine J.nil ?_
      refine EJ.thenN (hK11 ?_)
      refine CJ.condD rfl (fun h28 => ?_) (fun h28 => ?_)
      ·
        refine CJ.seq fun _ hK12 _ => ?_
        refine CJ.region ?_
        refine J.p (PR.assign rfl) rfl ?_
        refine J.p (PR.assign rfl) rfl ?_
        refine J.nil ?_
        refine EJ.thenN (hK12 ?_)
        refine CJ.ret ?_
        refine EJ.thenR ?_
        refine EJ.inR ?_
        refine EJ.thenR ?_
        refine EJ.thenR ?_
        refine EJ.inR ?_
        refine EJ.thenR ?_
        refine EJ.ret2 rfl (Res.tmp rfl) (Res.tmp rfl) fun w hH => ?_
        replace hH := hH.tail
        replace hH := hH.tail
        exact ⟨degRet (homog_no (k := k) (by omega) (fun e => h28 (e.trans (outAt_pos h24p).2.symm))) rfl, hH⟩
      ·
        have h28x : wd ds ts k = wd ds ts 0 := (Decidable.not_not.1 h28).trans (outAt_pos h24p).2
        refine CJ.skip ?_
        refine EJ.thenN (hK10 ?_)
        refine CJ.region ?_
        refine J.p (PR.move rfl) rfl ?_
        refine J.p (PR.assign rfl) rfl ?_
        refine J.nil ?_
        refine EJ.inN ?_
        refine EJ.thenN (hK7 ?_)
        refine CJ.region ?_
        refine J.p (PR.add rfl rfl (by first | exact nw _ (by omega) | rfl)) rfl ?_
        refine J.p (PR.move rfl) rfl ?_
        refine J.nil ?_
        refine EJ.thenN ?_
        refine EJ.drop .z ?_
        exact hAg0 (k + 1) ⟨by omega, upto hI.2 h28x⟩ (by omega) 23 rfl rfl ⟨rfl, ⟨(vi (outAt_succ (h28x))), trivial⟩⟩ rfl rfl
    ·
      try have h24p := of_decide_eq_false h24
      refine J.gn rfl rfl rfl h24 ?_
      refine J.gn rfl rfl rfl h24 ?_
      refine J.gn rfl rfl rfl h24 ?_
      refine J.p (PR.pickF rfl h24 rfl) rfl ?_
      refine J.nil ?_
      refine EJ.thenN (hK11 ?_)
      refine CJ.condF rfl ?_
      refine CJ.skip ?_
      refine EJ.thenN (hK10 ?_)
      refine CJ.region ?_
      refine J.p (PR.move rfl) rfl ?_
      refine J.p (PR.assign rfl) rfl ?_
      refine J.nil ?_
      refine EJ.inN ?_
      refine EJ.thenN (hK7 ?_)
      refine CJ.region ?_
      refine J.p (PR.add rfl rfl (by first | exact nw _ (by omega) | rfl)) rfl ?_
      refine J.p (PR.move rfl) rfl ?_
      refine J.nil ?_
      refine EJ.thenN ?_
      refine EJ.drop .z ?_
      exact hAg0 (k + 1) ⟨by omega, upto hI.2 (congrArg (wd ds ts) (outAt_neg (wd_bd hn hd (hts.wf 0 (by omega)).mono).1 h24p))⟩ (by omega) 23 rfl rfl ⟨rfl, ⟨(vi (outAt_succ ((congrArg (wd ds ts) (outAt_neg (wd_bd hn hd (hts.wf 0 (by omega)).mono).1 h24p))))), trivial⟩⟩ rfl rfl
  ·
    refine CJ.exit ?_
    refine EJ.thenE ?_
    refine EJ.thenE ?_
    refine EJ.inE ?_
    refine EJ.thenN (hK3 ?_)
    refine CJ.seq fun _ hK13 _ => ?_
    refine CJ.region ?_
    refine J.p (PR.move rfl) rfl ?_
    refine J.p (PR.assign rfl) rfl ?_
    refine J.p (PR.assign rfl) rfl ?_
    refine J.nil ?_
    refine EJ.thenN (hK13 ?_)
    refine CJ.ret ?_
    refine EJ.ret2 rfl (Res.tmp rfl) (Res.tmp rfl) fun w hH => ?_
    replace hH := hH.tail
    obtain rfl : k = ts.length := by omega
    exact ⟨degRet (homog_yes hI.2) rfl, hH⟩
set_option maxRecDepth 10000 in
theorem l01Degree_c {B : World} {H0 H : HP} {L : List SA} {w : World} {qds : Option Addr} {cds : Nat} {ds : List Int} {qts : Option Addr} {cts : Nat} {ts : List Term}  (hds : Ints H qds ds) (hts : Terms H qts ts) (hn : ds.length ≤ 8) (hd : ∀ j, 0 ≤ ds.getD j 0 ∧ ds.getD j 0 ≤ 12) (hl : ts.length ≤ 9223372036854775807) (hH : Hp B H0 H L w) :
    Calls Try.prog 119 [.slice qds ds.length cds, .agg [.slice qts ts.length cts].toArray].toArray w fun e w' => e = .returned (.tuple #[.int .i64 (degF ds ts), .bool (homog ds ts)]) ∧ Hp B H0 H L w' := by
  refine CJ.enter Try.func119 rfl 37 rfl rfl [(0, .slice qds ds.length cds), (1, .agg [.slice qts ts.length cts].toArray)] rfl hH ?_
  clear hH
  refine CJ.seq fun _ hK1 _ => ?_
  refine CJ.region ?_
  refine J.box rfl rfl rfl fun g3 => ?_
  refine J.p (PR.assign rfl) rfl ?_
  refine J.p (PR.assign rfl) rfl ?_
  refine J.nil ?_
  refine EJ.thenN (hK1 ?_)
  refine CJ.seq fun _ hK2 _ => ?_
  refine CJ.seq fun _ hK3 _ => ?_
  refine CJ.region ?_
  refine J.p (PR.fldA u29 rfl sz27 rfl) rfl ?_
  refine J.p (PR.load rfl At.z rfl pl27) rfl ?_
  refine J.p (PR.lenSlice u27 rfl rfl) rfl ?_
  refine J.p (PR.eql rfl rfl) rfl ?_
  refine J.nil ?_
  refine EJ.thenN (hK3 ?_)
  refine CJ.condD rfl (fun h11 => ?_) (fun h11 => ?_)
  ·
    refine CJ.seq fun _ hK4 _ => ?_
    refine CJ.region ?_
    refine J.p (PR.assign rfl) rfl ?_
    refine J.p (PR.assign rfl) rfl ?_
    refine J.nil ?_
    refine EJ.thenN (hK4 ?_)
    refine CJ.ret ?_
    refine EJ.thenR ?_
    refine EJ.ret2 rfl (Res.tmp rfl) (Res.tmp rfl) fun w hH => ?_
    replace hH := hH.tail
    exact ⟨degRet (homog_yes (fun j hj => by omega)) (by rw [if_pos rfl]; unfold outAt; rw [if_pos (by omega)]), hH⟩
  ·
    refine CJ.skip ?_
    refine EJ.thenN (hK2 ?_)
    refine CJ.seq fun _ hK5 _ => ?_
    refine CJ.region ?_
    refine J.p (PR.move rfl) rfl ?_
    refine J.p (PR.fldA u29 rfl sz27 rfl) rfl ?_
    refine J.p (PR.load rfl At.z rfl pl27) rfl ?_
    refine J.p (PR.idx (i' := 0) u27 sz88 rfl rfl rfl (by omega) hts.sm) rfl ?_
    refine J.p (PR.fldP u88 rfl sz86 rfl (hts.sm (i := 0) (by omega))) rfl ?_
    refine J.p (PR.loadHagg rfl (hts.mono (by omega)) (hts.sm (i := 0) (by omega)) (by rw [bytesC_length, (hts.wf _ (by omega)).mono.len]; exact ag86)) rfl ?_
    refine J.call fn72 rfl rfl fun w hH => (l01Weight_c hds (hts.wf 0 (by omega)).mono hn hd hH).mono ?_
    rintro _ w ⟨rfl, hH⟩
    refine ⟨_, rfl, fun a hF => J.of hF hH ?_⟩
    refine J.p (PR.assign rfl) rfl ?_
    refine J.nil ?_
    refine EJ.thenN (hK5 ?_)
    refine CJ.seq fun _ hK6 _ => ?_
    refine CJ.seq fun _ hK7 _ => ?_
    refine CJ.region ?_
    refine J.p (PR.assign rfl) rfl ?_
    refine J.nil ?_
    refine EJ.thenN (hK7 ?_)
    refine CJ.block ?_
    refine CJ.loopU (σ := Nat) (fun (k : Nat) => [(7, .int .i64 (k : Int))]) (fun (k : Nat) => H) (fun (k : Nat) => obj g3 (.cells [.slice qts ts.length cts].toArray 29 (0, 0)) :: L) (fun (k : Nat) => 1 ≤ k ∧ k ≤ ts.length ∧ ∀ j, j < k → wd ds ts j = wd ds ts 0) (fun (k : Nat) => ts.length - k) 1 ⟨by omega, by omega, fun j hj => by rw [show j = 0 by omega]⟩ ⟨rfl, trivial⟩ rfl rfl ?_
    rintro k hI _ hAg0
    have hk := hI.2.1
    refine CJ.seq fun _ hK8 _ => ?_
    refine CJ.seq fun _ hK9 _ => ?_
    refine CJ.region ?_
    refine J.p (PR.move rfl) rfl ?_
    refine J.p (PR.fldA u29 rfl sz27 rfl) rfl ?_
    refine J.p (PR.load rfl At.z rfl pl27) rfl ?_
    refine J.p (PR.lenSlice u27 rfl rfl) rfl ?_
    refine J.p (PR.lss rfl rfl) rfl ?_
    refine J.nil ?_
    refine EJ.thenN (hK9 ?_)
    refine CJ.condD rfl (fun hc23 => ?_) (fun hc23 => ?_)
    ·
      refine CJ.skip ?_
      refine EJ.thenN (hK8 ?_)
      refine CJ.seq fun _ hK10 _ => ?_
      refine CJ.block ?_
      refine CJ.seq fun _ hK11 _ => ?_
      refine CJ.region ?_
      refine J.p (PR.move rfl) rfl ?_
      refine J.p (PR.fldA u29 rfl sz27 rfl) rfl ?_
      refine J.p (PR.load rfl At.z rfl pl27) rfl ?_
      refine J.p (PR.move rfl) rfl ?_
      refine J.p (PR.idx u27 sz88 rfl rfl rfl (by omega) hts.sm) rfl ?_
      refine J.p (PR.fldP u88 rfl sz86 rfl (hts.sm (i := k) (by omega))) rfl ?_
      refine J.p (PR.loadHagg rfl (hts.mono (by omega)) (hts.sm (i := k) (by omega)) (by rw [bytesC_length, (hts.wf _ (by omega)).mono.len]; exact ag86)) rfl ?_
      refine J.call fn72 rfl rfl fun w hH => (l01Weight_c hds (hts.wf k (by omega)).mono hn hd hH).mono ?_
      rintro _ w ⟨rfl, hH⟩
      refine ⟨_, rfl, fun a hF => J.of hF hH ?_⟩
      refine J.p (PR.move rfl) rfl ?_
      refine J.p (PR.neq rfl rfl) rfl ?_
      refine J.nil ?_
      refine EJ.thenN (hK11 ?_)
      refine CJ.condD rfl (fun h35 => ?_) (fun h35 => ?_)
      ·
        refine CJ.seq fun _ hK12 _ => ?_
        refine CJ.region ?_
        refine J.p (PR.assign rfl) rfl ?_
        refine J.p (PR.assign rfl) rfl ?_
        refine J.nil ?_
        refine EJ.thenN (hK12 ?_)
        refine CJ.ret ?_
        refine EJ.inR ?_
        refine EJ.thenR ?_
        refine EJ.thenR ?_
        refine EJ.inR ?_
        refine EJ.thenR ?_
        refine EJ.ret2 rfl (Res.tmp rfl) (Res.tmp rfl) fun w hH => ?_
        replace hH := hH.tail
        exact ⟨degRet (homog_no (k := k) (by omega) h35) rfl, hH⟩
      ·
        refine CJ.skip ?_
        refine EJ.inN ?_
        refine EJ.thenN (hK10 ?_)
        refine CJ.region ?_
        refine J.p (PR.move rfl) rfl ?_
        refine J.p (PR.add rfl rfl (by first | exact nw _ (by omega) | rfl)) rfl ?_
        refine J.p (PR.assign rfl) rfl ?_
        refine J.nil ?_
        refine EJ.thenN ?_
        exact hAg0 (k + 1) ⟨by omega, by omega, upto hI.2.2 (Decidable.not_not.1 h35)⟩ (by omega) 19 rfl rfl ⟨rfl, trivial⟩ rfl rfl
    ·
      refine CJ.exit ?_
      refine EJ.thenE ?_
      refine EJ.thenE ?_
      refine EJ.inE ?_
      refine EJ.thenN (hK6 ?_)
      refine CJ.seq fun _ hK13 _ => ?_
      refine CJ.region ?_
      refine J.p (PR.move rfl) rfl ?_
      refine J.p (PR.assign rfl) rfl ?_
      refine J.p (PR.assign rfl) rfl ?_
      refine J.nil ?_
      refine EJ.thenN (hK13 ?_)
      refine CJ.ret ?_
      refine EJ.ret2 rfl (Res.tmp rfl) (Res.tmp rfl) fun w hH => ?_
      replace hH := hH.tail
      obtain rfl : k = ts.length := by omega
      exact ⟨degRet (homog_yes hI.2.2) (by rw [if_pos rfl]; unfold outAt; rw [if_neg (by omega)]; rfl), hH⟩
end Go.Proofs.Ytpojpokldncglaa.G
