/- The walks: what each Go function does, shown from its text. No condition. -/
import Derived.Test.YtbjhllmcnfncdaaDoorGAlg
import Derived.Test.YtbjhllmcnfncdaaDoorProg
import Derived.Test.YtbjhllmcnfncdaaDoorWa
import Derived.Test.YtbjhllmcnfncdaaDoorWb
import Derived.Test.YtbjhllmcnfncdaaDoorWc
set_option linter.unusedVariables false
set_option linter.unusedSimpArgs false
namespace Go.Proofs.YtbjhllmcnfncdaaDoor.G
open Go Go.RowKit
namespace Wd
theorem u2 : Tryd.prog.underlying 2 = some (TypeDesc.int .i64) := by kernel_rfl
theorem u23 : Tryd.prog.underlying 23 = some (TypeDesc.slice 70) := by kernel_rfl
theorem u25 : Tryd.prog.underlying 25 = some (TypeDesc.struct #[{ name := "Terms", type := 23, offset := 0, embedded := false, tag := "", pkgPath := "", byteOffset := 0 }]) := by kernel_rfl
theorem u3 : Tryd.prog.underlying 3 = some (TypeDesc.int .i64) := by kernel_rfl
theorem u30 : Tryd.prog.underlying 30 = some (TypeDesc.slice 66) := by kernel_rfl
theorem u32 : Tryd.prog.underlying 32 = some (TypeDesc.struct #[{ name := "Terms", type := 30, offset := 0, embedded := false, tag := "", pkgPath := "", byteOffset := 0 }]) := by kernel_rfl
theorem u5 : Tryd.prog.underlying 5 = some (TypeDesc.int .u8) := by kernel_rfl
theorem u63 : Tryd.prog.underlying 63 = some (TypeDesc.array 8 5) := by kernel_rfl
theorem u64 : Tryd.prog.underlying 64 = some (TypeDesc.array 8 5) := by kernel_rfl
theorem u66 : Tryd.prog.underlying 66 = some (TypeDesc.struct #[{ name := "Monomial", type := 64, offset := 0, embedded := false, tag := "", pkgPath := "", byteOffset := 0 }, { name := "Factor", type := 2, offset := 8, embedded := false, tag := "", pkgPath := "", byteOffset := 8 }]) := by kernel_rfl
theorem u70 : Tryd.prog.underlying 70 = some (TypeDesc.struct #[{ name := "Monomial", type := 63, offset := 0, embedded := false, tag := "", pkgPath := "", byteOffset := 0 }, { name := "Factor", type := 2, offset := 8, embedded := false, tag := "", pkgPath := "", byteOffset := 8 }]) := by kernel_rfl
theorem u88 : Tryd.prog.underlying 88 = some (TypeDesc.array 8 3) := by kernel_rfl
theorem sz2 : Size Tryd.prog 2 1 := by unfold Size; kernel_rfl
theorem sz23 : Size Tryd.prog 23 1 := by unfold Size; kernel_rfl
theorem sz3 : Size Tryd.prog 3 1 := by unfold Size; kernel_rfl
theorem sz30 : Size Tryd.prog 30 1 := by unfold Size; kernel_rfl
theorem sz32 : Size Tryd.prog 32 1 := by unfold Size; kernel_rfl
theorem sz5 : Size Tryd.prog 5 1 := by unfold Size; kernel_rfl
theorem sz63 : Size Tryd.prog 63 8 := by unfold Size; kernel_rfl
theorem sz64 : Size Tryd.prog 64 8 := by unfold Size; kernel_rfl
theorem sz66 : Size Tryd.prog 66 9 := by unfold Size; kernel_rfl
theorem sz70 : Size Tryd.prog 70 9 := by unfold Size; kernel_rfl
theorem by66 : Bytes Tryd.prog 66 16 := by unfold Bytes; kernel_rfl
theorem ze32 : Zero Tryd.prog 32 [.slice none 0 0] := by unfold Zero; kernel_rfl
theorem ze66 : Zero Tryd.prog 66 [.int .u8 0, .int .u8 0, .int .u8 0, .int .u8 0, .int .u8 0, .int .u8 0, .int .u8 0, .int .u8 0, .int .i64 0] := by unfold Zero; kernel_rfl
theorem pl2 : Plain Tryd.prog 2 := ⟨_, u2, rfl⟩
theorem pl23 : Plain Tryd.prog 23 := ⟨_, u23, rfl⟩
theorem pl3 : Plain Tryd.prog 3 := ⟨_, u3, rfl⟩
theorem pl30 : Plain Tryd.prog 30 := ⟨_, u30, rfl⟩
theorem pl5 : Plain Tryd.prog 5 := ⟨_, u5, rfl⟩
theorem ag32 : Agg Tryd.prog 32 1 := ⟨_, u32, rfl, by kernel_rfl⟩
theorem ag63 : Agg Tryd.prog 63 8 := ⟨_, u63, rfl, by kernel_rfl⟩
theorem ag64 : Agg Tryd.prog 64 8 := ⟨_, u64, rfl, by kernel_rfl⟩
theorem ag66 : Agg Tryd.prog 66 9 := ⟨_, u66, rfl, by kernel_rfl⟩
theorem ag70 : Agg Tryd.prog 70 9 := ⟨_, u70, rfl, by kernel_rfl⟩
theorem fn17 : Fn Tryd.prog 17 := ⟨_, Tryd.func17, by kernel_rfl, rfl⟩
theorem fn20 : Fn Tryd.prog 20 := ⟨_, Tryd.func20, by kernel_rfl, rfl⟩
theorem fn23 : Fn Tryd.prog 23 := ⟨_, Tryd.func23, by kernel_rfl, rfl⟩
theorem fn36 : Fn Tryd.prog 36 := ⟨_, Tryd.func36, by kernel_rfl, rfl⟩
theorem fn42 : Fn Tryd.prog 42 := ⟨_, Tryd.func42, by kernel_rfl, rfl⟩
theorem fn52 : Fn Tryd.prog 52 := ⟨_, Tryd.func52, by kernel_rfl, rfl⟩
theorem fn55 : Fn Tryd.prog 55 := ⟨_, Tryd.func55, by kernel_rfl, rfl⟩
theorem fn64 : Fn Tryd.prog 64 := ⟨_, Tryd.func64, by kernel_rfl, rfl⟩
theorem foll0 : Tryd.prog.follows .mixedOrders = true := by kernel_rfl
end Wd
open Wd
set_option maxRecDepth 10000 in
theorem szTermS_c {B : World} {H0 H : HP} {L : List SA} {w : World} {qts : Option Addr} {cts : Nat} {ts : List Term} {left : Int}  (hts : Terms H qts ts) (hn : 0 ≤ left ∧ left ≤ 1000000000 ∧ ts.length ≤ 9223372036854775807) (hH : Hp B H0 H L w) :
    Calls Tryd.prog 17 [.slice qts ts.length cts, .int .i64 left].toArray w fun e w' => e = .returned (.int .i64 (if left - ts.length < 0 then -1 else left - ts.length)) ∧ Hp B H0 H L w' := by
  refine CJ.enter Tryd.func17 rfl 12 rfl rfl [(0, .slice qts ts.length cts), (1, .int .i64 left)] rfl hH ?_
  clear hH
  refine CJ.seq fun _ hK1 _ => ?_
  refine CJ.region ?_
  refine J.p (PR.assign rfl) rfl ?_
  refine J.nil ?_
  refine EJ.thenN (hK1 ?_)
  refine CJ.seq fun _ hK2 _ => ?_
  refine CJ.region ?_
  refine J.p (PR.move rfl) rfl ?_
  refine J.p (PR.move rfl) rfl ?_
  refine J.p (PR.lenSlice u23 rfl rfl) rfl ?_
  refine J.p (PR.sub rfl rfl (by first | exact nw _ (by omega) | rfl)) rfl ?_
  refine J.p (PR.assign rfl) rfl ?_
  refine J.nil ?_
  refine EJ.thenN (hK2 ?_)
  refine CJ.seq fun _ hK3 _ => ?_
  refine CJ.seq fun _ hK4 _ => ?_
  refine CJ.region ?_
  refine J.p (PR.move rfl) rfl ?_
  refine J.p (PR.lss rfl rfl) rfl ?_
  refine J.nil ?_
  refine EJ.thenN (hK4 ?_)
  refine CJ.condD rfl (fun h10 => ?_) (fun h10 => ?_)
  ·
    refine CJ.seq fun _ hK5 _ => ?_
    refine CJ.region ?_
    refine J.p (PR.assign rfl) rfl ?_
    refine J.nil ?_
    refine EJ.thenN (hK5 ?_)
    refine CJ.ret ?_
    refine EJ.thenR ?_
    refine EJ.ret1 rfl (Res.tmp rfl) fun w hH => ?_
    exact ⟨by rw [if_pos h10], hH⟩
  ·
    refine CJ.skip ?_
    refine EJ.thenN (hK3 ?_)
    refine CJ.seq fun _ hK6 _ => ?_
    refine CJ.region ?_
    refine J.p (PR.move rfl) rfl ?_
    refine J.p (PR.assign rfl) rfl ?_
    refine J.nil ?_
    refine EJ.thenN (hK6 ?_)
    refine CJ.ret ?_
    refine EJ.ret1 rfl (Res.tmp rfl) fun w hH => ?_
    exact ⟨by rw [if_neg h10], hH⟩
set_option maxRecDepth 10000 in
theorem szForm_c {B : World} {H0 H : HP} {L : List SA} {w : World} {qts : Option Addr} {cts : Nat} {ts : List Term} {left : Int}  (hts : Terms H qts ts) (hn : 0 ≤ left ∧ left ≤ 1000000000 ∧ ts.length ≤ 9223372036854775807) (hH : Hp B H0 H L w) :
    Calls Tryd.prog 5 [.agg [.slice qts ts.length cts].toArray, .int .i64 left].toArray w fun e w' => e = .returned (.int .i64 (if left - ts.length < 0 then -1 else left - ts.length)) ∧ Hp B H0 H L w' := by
  refine CJ.enter Tryd.func5 rfl 12 rfl rfl [(0, .agg [.slice qts ts.length cts].toArray), (1, .int .i64 left)] rfl hH ?_
  clear hH
  refine CJ.seq fun _ hK1 _ => ?_
  refine CJ.region ?_
  refine J.box rfl rfl rfl fun g2 => ?_
  refine J.p (PR.assign rfl) rfl ?_
  refine J.nil ?_
  refine EJ.thenN (hK1 ?_)
  refine CJ.seq fun _ hK2 _ => ?_
  refine CJ.region ?_
  refine J.p (PR.fldA u25 rfl sz23 rfl) rfl ?_
  refine J.p (PR.load rfl At.z rfl pl23) rfl ?_
  refine J.p (PR.move rfl) rfl ?_
  refine J.call fn17 rfl rfl fun w hH => (szTermS_c hts hn hH).mono ?_
  rintro _ w ⟨rfl, hH⟩
  refine ⟨_, rfl, fun a hF => J.of hF hH ?_⟩
  refine J.p (PR.assign rfl) rfl ?_
  refine J.nil ?_
  refine EJ.thenN (hK2 ?_)
  refine CJ.seq fun _ hK3 _ => ?_
  refine CJ.seq fun _ hK4 _ => ?_
  refine CJ.region ?_
  refine J.p (PR.move rfl) rfl ?_
  refine J.p (PR.lss rfl rfl) rfl ?_
  refine J.nil ?_
  refine EJ.thenN (hK4 ?_)
  refine CJ.condD rfl (fun h10 => ?_) (fun h10 => ?_)
  ·
    refine CJ.seq fun _ hK5 _ => ?_
    refine CJ.region ?_
    refine J.p (PR.assign rfl) rfl ?_
    refine J.nil ?_
    refine EJ.thenN (hK5 ?_)
    refine CJ.ret ?_
    refine EJ.thenR ?_
    refine EJ.ret1 rfl (Res.tmp rfl) fun w hH => ?_
    replace hH := hH.tail
    exact ⟨ri (by split at h10 <;> split <;> omega), hH⟩
  ·
    refine CJ.skip ?_
    refine EJ.thenN (hK3 ?_)
    refine CJ.seq fun _ hK6 _ => ?_
    refine CJ.region ?_
    refine J.p (PR.move rfl) rfl ?_
    refine J.p (PR.assign rfl) rfl ?_
    refine J.nil ?_
    refine EJ.thenN (hK6 ?_)
    refine CJ.ret ?_
    refine EJ.ret1 rfl (Res.tmp rfl) fun w hH => ?_
    replace hH := hH.tail
    exact ⟨ri (by split at h10 <;> rfl), hH⟩
set_option maxRecDepth 10000 in
theorem toTerm_c {B : World} {H0 H : HP} {L : List SA} {w : World} {t : Term}  (ht : t.wf) (hH : Hp B H0 H L w) :
    Calls Tryd.prog 36 [.agg t.c.toArray].toArray w fun e w' => e = .returned (.agg t.c.toArray) ∧ Hp B H0 H L w' := by
  refine CJ.enter Tryd.func36 rfl 12 rfl rfl [(0, .agg t.c.toArray)] rfl hH ?_
  clear hH
  refine CJ.seq fun _ hK1 _ => ?_
  refine CJ.region ?_
  refine J.box rfl rfl rfl fun g1 => ?_
  refine J.alloc (cs := (default : Term).c) ze66 rfl fun g2 => ?_
  refine J.nil ?_
  refine EJ.thenN (hK1 ?_)
  refine CJ.seq fun _ hK2 _ => ?_
  refine CJ.region ?_
  refine J.alloc (cs := (default : Term).c) ze66 rfl fun g3 => ?_
  refine J.nil ?_
  refine EJ.thenN (hK2 ?_)
  refine CJ.seq fun _ hK3 _ => ?_
  refine CJ.region ?_
  refine J.p (PR.fldA u70 rfl sz63 rfl) rfl ?_
  refine J.p (PR.ldMono rfl (.s (.s .z)) ht ag63) rfl ?_
  refine J.call fn52 rfl rfl fun w hH => (toMonomial_c ht.mono hH).mono ?_
  rintro _ w ⟨rfl, hH⟩
  refine ⟨_, rfl, fun a hF => J.of hF hH ?_⟩
  refine J.p (PR.fldA u66 rfl sz64 rfl) rfl ?_
  refine J.stMono rfl rfl sz64 zero_wf ht.mono At.z ?_
  refine J.nil ?_
  refine EJ.thenN (hK3 ?_)
  refine CJ.seq fun _ hK4 _ => ?_
  refine CJ.region ?_
  refine J.p (PR.fldA u70 rfl sz2 rfl) rfl ?_
  refine J.p (PR.ldFac rfl (.s (.s .z)) ht pl2) rfl ?_
  refine J.p (PR.fldA u66 rfl sz2 rfl) rfl ?_
  refine J.stFac rfl rfl sz2 (Term.wf.of ht.mono zero_wf.fac) At.z ?_
  refine J.nil ?_
  refine EJ.thenN (hK4 ?_)
  refine CJ.seq fun _ hK5 _ => ?_
  refine CJ.region ?_
  refine J.p (PR.ldTerm rfl At.z (Term.wf.of (Term.wf.of ht.mono zero_wf.fac).mono ht.fac) ag66) rfl ?_
  refine J.stTerm rfl rfl sz66 zero_wf (Term.wf.of (Term.wf.of ht.mono zero_wf.fac).mono ht.fac) (.s .z) ?_
  refine J.nil ?_
  refine EJ.thenN (hK5 ?_)
  refine CJ.ret ?_
  refine EJ.ret1 rfl (Res.agg rfl (.s .z) (by rw [Term.c_length ht]; exact ag66)) fun w hH => ?_
  replace hH := hH.tail
  replace hH := hH.tail
  replace hH := hH.tail
  exact ⟨rfl, hH⟩
set_option maxRecDepth 10000 in
theorem toTermS_c {B : World} {H0 H : HP} {L : List SA} {w : World} {qts : Option Addr} {cts : Nat} {ts : List Term}  (hts : Terms H qts ts) (hn : ts.length ≤ 1048576) (hH : Hp B H0 H L w) :
    Calls Tryd.prog 20 [.slice qts ts.length cts].toArray w fun e w' => ∃ q c, e = .returned (.slice q ts.length c) ∧ Hp B H0 H (own 66 9 q ts.length c (tsC ts) :: L) w' := by
  refine CJ.enter Tryd.func20 rfl 23 rfl rfl [(0, .slice qts ts.length cts)] rfl hH ?_
  clear hH
  refine CJ.seq fun _ hK1 _ => ?_
  refine CJ.region ?_
  refine J.p (PR.assign rfl) rfl ?_
  refine J.nil ?_
  refine EJ.thenN (hK1 ?_)
  refine CJ.seq fun _ hK2 _ => ?_
  refine CJ.region ?_
  refine J.p (PR.move rfl) rfl ?_
  refine J.p (PR.lenSlice u23 rfl rfl) rfl ?_
  refine J.makeT u30 ze66 sz66 by66 rfl rfl rfl rfl (by omega) rfl fun g7 => ?_
  refine J.p (PR.assign rfl) rfl ?_
  refine J.nil ?_
  refine EJ.thenN (hK2 ?_)
  refine CJ.seq fun _ hK3 _ => ?_
  refine CJ.seq fun _ hK4 _ => ?_
  refine CJ.region ?_
  refine J.p (PR.assign rfl) rfl ?_
  refine J.nil ?_
  refine EJ.thenN (hK4 ?_)
  refine CJ.block ?_
  refine CJ.loopU (σ := Nat) (fun (k : Nat) => [(4, .int .i64 (k : Int))]) (fun (k : Nat) => H) (fun (k : Nat) => obj g7 (.cells (tsC (ts.take k ++ List.replicate (ts.length - k) default)).toArray 66 (0, 0)) :: L) (fun (k : Nat) => k ≤ ts.length) (fun (k : Nat) => ts.length - k) 0 (by omega) ⟨rfl, trivial⟩ rfl rfl ?_
  rintro k hI _ hAg0
  have hk := hI
  refine CJ.seq fun _ hK5 _ => ?_
  refine CJ.seq fun _ hK6 _ => ?_
  refine CJ.region ?_
  refine J.p (PR.move rfl) rfl ?_
  refine J.p (PR.move rfl) rfl ?_
  refine J.p (PR.lenSlice u23 rfl rfl) rfl ?_
  refine J.p (PR.lss rfl rfl) rfl ?_
  refine J.nil ?_
  refine EJ.thenN (hK6 ?_)
  refine CJ.condD rfl (fun hc11 => ?_) (fun hc11 => ?_)
  ·
    refine CJ.skip ?_
    refine EJ.thenN (hK5 ?_)
    refine CJ.seq fun _ hK7 _ => ?_
    refine CJ.block ?_
    refine CJ.region ?_
    refine J.p (PR.move rfl) rfl ?_
    refine J.p (PR.move rfl) rfl ?_
    refine J.p (PR.move rfl) rfl ?_
    refine J.p (PR.move rfl) rfl ?_
    refine J.p (PR.idx u23 sz70 rfl rfl rfl (by omega) hts.sm) rfl ?_
    refine J.p (PR.loadHagg rfl (hts.cell _ (by omega)) (hts.sm (i := k) (by omega)) (by rw [Term.c_length (hts.wf _ (by omega))]; exact ag70)) rfl ?_
    refine J.call fn36 rfl rfl fun w hH => (toTerm_c (hts.wf k (by omega)) hH).mono ?_
    rintro _ w ⟨rfl, hH⟩
    refine ⟨_, rfl, fun a hF => J.of hF hH ?_⟩
    refine J.p (PR.idxO u30 sz66 rfl rfl rfl (by omega)) rfl ?_
    refine J.storeT rfl rfl sz66 (by simp; omega) (fillT_wf hts.wfs _ _) (hts.wf k (by omega)) At.z ?_
    refine J.nil ?_
    refine EJ.inN ?_
    refine EJ.thenN (hK7 ?_)
    refine CJ.region ?_
    refine J.p (PR.move rfl) rfl ?_
    refine J.p (PR.add rfl rfl (by first | exact nw _ (by omega) | rfl)) rfl ?_
    refine J.p (PR.assign rfl) rfl ?_
    refine J.nil ?_
    refine EJ.thenN ?_
    exact hAg0 (k + 1) (by omega) (by omega) 16 rfl rfl ⟨rfl, trivial⟩ rfl (by rw [← fillT_step (by omega)])
  ·
    refine CJ.exit ?_
    refine EJ.thenE ?_
    refine EJ.thenE ?_
    refine EJ.inE ?_
    refine EJ.thenN (hK3 ?_)
    refine CJ.seq fun _ hK8 _ => ?_
    refine CJ.region ?_
    refine J.p (PR.move rfl) rfl ?_
    refine J.p (PR.assign rfl) rfl ?_
    refine J.nil ?_
    refine EJ.thenN (hK8 ?_)
    refine CJ.ret ?_
    refine EJ.ret1 rfl (Res.tmp rfl) fun w hH => ?_
    obtain rfl : k = ts.length := by omega
    rw [fillT_end] at hH
    exact ⟨_, _, rfl, own_full _ 9 hH (tsC_length hts.wfs) (by simp only [maxLen]; omega)⟩
set_option maxRecDepth 10000 in
theorem toForm_c {B : World} {H0 H : HP} {L : List SA} {w : World} {qts : Option Addr} {cts : Nat} {ts : List Term}  (hts : Terms H qts ts) (hn : ts.length ≤ 1048576) (hH : Hp B H0 H L w) :
    Calls Tryd.prog 8 [.agg [.slice qts ts.length cts].toArray].toArray w fun e w' => ∃ q c, e = .returned (.agg [.slice q ts.length c].toArray) ∧ Hp B H0 H (own 66 9 q ts.length c (tsC ts) :: L) w' := by
  refine CJ.enter Tryd.func8 rfl 9 rfl rfl [(0, .agg [.slice qts ts.length cts].toArray)] rfl hH ?_
  clear hH
  refine CJ.seq fun _ hK1 _ => ?_
  refine CJ.region ?_
  refine J.box rfl rfl rfl fun g1 => ?_
  refine J.alloc ze32 rfl fun g2 => ?_
  refine J.nil ?_
  refine EJ.thenN (hK1 ?_)
  refine CJ.seq fun _ hK2 _ => ?_
  refine CJ.region ?_
  refine J.alloc ze32 rfl fun g3 => ?_
  refine J.nil ?_
  refine EJ.thenN (hK2 ?_)
  refine CJ.seq fun _ hK3 _ => ?_
  refine CJ.region ?_
  refine J.p (PR.fldA u25 rfl sz23 rfl) rfl ?_
  refine J.p (PR.load rfl (.s (.s .z)) rfl pl23) rfl ?_
  refine J.call fn20 rfl rfl fun w hH => (toTermS_c hts (by omega) hH).mono ?_
  rintro _ w ⟨qo6, co6, rfl, hH⟩
  refine ⟨_, rfl, fun a hF => J.of hF hH ?_⟩
  refine J.p (PR.fldA u32 rfl sz30 rfl) rfl ?_
  refine J.store rfl rfl rfl rfl sz30 (by simp [*]) (.s .z) ?_
  refine J.nil ?_
  refine EJ.thenN (hK3 ?_)
  refine CJ.seq fun _ hK4 _ => ?_
  refine CJ.region ?_
  refine J.p (PR.loadAll rfl (.s .z) (by simpa [*] using ag32)) rfl ?_
  refine J.storeAll rfl rfl (by first | exact bytesC_one _ | exact intsC_one _ | exact Term.c_one _ | simp [Value.oneCell']) (by simpa [*] using sz32) (by simp [*]) (.s (.s .z)) ?_
  refine J.nil ?_
  refine EJ.thenN (hK4 ?_)
  refine CJ.ret ?_
  refine EJ.ret1 rfl (Res.agg rfl (.s (.s .z)) (by simpa [*] using ag32)) fun w hH => ?_
  replace hH := hH.sublist (.cons_cons _ (.cons _ (.cons _ (.cons _ (List.Sublist.refl _)))))
  exact ⟨_, _, rfl, hH⟩

def cmp (p q : List Int) : Int := match (List.range 8).find? (fun i => decide (p.getD i 0 ≠ q.getD i 0)) with | some i => q.getD i 0 - p.getD i 0 | none => 0
def before (a b : List Int) : Bool := decide (cmp a b < 0)
theorem range_find {p : Nat → Bool} {k n : Nat} (hk : k < n) (h : ∀ j, j < k → p j = false) (hp : p k = true) : (List.range n).find? p = some k := by
  rw [List.find?_eq_some_iff_getElem]
  exact ⟨hp, k, by simp [hk], by simp, fun j hj => by simp [h j hj]⟩
theorem range_find_none {p : Nat → Bool} {n : Nat} (h : ∀ j, j < n → p j = false) : (List.range n).find? p = none := by
  rw [List.find?_eq_none]
  intro j hj
  simp [h j (List.mem_range.1 hj)]
theorem cmp_hit {p q : List Int} {k : Nat} (hk : k < 8) (h : ∀ j, j < k → p.getD j 0 = q.getD j 0) (hn : p.getD k 0 ≠ q.getD k 0) : cmp p q = q.getD k 0 - p.getD k 0 := by
  unfold cmp
  rw [range_find (p := fun i => decide (p.getD i 0 ≠ q.getD i 0)) hk (fun j hj => decide_eq_false (by simpa using h j hj)) (decide_eq_true hn)]
theorem cmp_miss {p q : List Int} (h : ∀ j, j < 8 → p.getD j 0 = q.getD j 0) : cmp p q = 0 := by
  unfold cmp
  rw [range_find_none (p := fun i => decide (p.getD i 0 ≠ q.getD i 0)) (fun j hj => decide_eq_false (by simpa using h j hj))]
theorem before_hit {p q : List Int} {k : Nat} (hk : k < 8) (h : ∀ j, j < k → p.getD j 0 = q.getD j 0) (hn : p.getD k 0 ≠ q.getD k 0) : before p q = decide (p.getD k 0 > q.getD k 0) := by
  unfold before
  rw [cmp_hit hk h hn]
  exact decide_eq_decide.2 (by omega)
theorem before_miss {p q : List Int} (h : ∀ j, j < 8 → p.getD j 0 = q.getD j 0) : before p q = false := by
  unfold before
  rw [cmp_miss h]
  rfl
/-- the term at i is as it has to be -/
def goodAt (ds : List Int) (ts : List Term) (i : Nat) : Bool :=
  isMono ds (tm ts i).mono && (decide (1 ≤ (tm ts i).fac) && decide ((tm ts i).fac ≤ 10006)) && (decide (i = 0) || before (tm ts (i - 1)).mono (tm ts i).mono)
def isForm (ds : List Int) (ts : List Term) : Bool := decide (ts.length ≤ 400) && (List.range ts.length).all (goodAt ds ts)
theorem isForm_long {ds : List Int} {ts : List Term} (h : ¬ (ts.length : Int) ≤ 400) : isForm ds ts = false := by
  unfold isForm
  rw [decide_eq_false (by omega)]
  rfl
theorem isForm_bad {ds : List Int} {ts : List Term} {k : Nat} (hk : k < ts.length) (h : goodAt ds ts k = false) : isForm ds ts = false := by
  unfold isForm
  rw [Bool.and_eq_false_iff]
  exact .inr (List.all_eq_false.2 ⟨k, by simpa using hk, by simp [h]⟩)
theorem isForm_good {ds : List Int} {ts : List Term} (h : ∀ j, j < ts.length → goodAt ds ts j = true) : isForm ds ts = decide ((ts.length : Int) ≤ 400) := by
  unfold isForm
  rw [List.all_eq_true.2 (fun j hj => h j (by simpa using hj)), Bool.and_true]
  exact decide_eq_decide.2 (by omega)


theorem mono_eq_of {a b : List Int} (ha : Mono a) (hb : Mono b) (h : ∀ j, j < 8 → a.getD j 0 = b.getD j 0) : a = b := list_eq_of (by rw [ha.len, hb.len]) (fun j hj => h j (by rw [ha.len] at hj; exact hj))

set_option maxRecDepth 10000 in
theorem eqMonomial_c {B : World} {H0 H : HP} {L : List SA} {w : World} {a : List Int} {b : List Int}  (ha : Mono a) (hb : Mono b) (hH : Hp B H0 H L w) :
    Calls Tryd.prog 64 [.agg (bytesC a).toArray, .agg (bytesC b).toArray].toArray w fun e w' => e = .returned (.bool (decide (a = b))) ∧ Hp B H0 H L w' := by
  refine CJ.enter Tryd.func64 rfl 17 rfl rfl [(0, .agg (bytesC a).toArray), (1, .agg (bytesC b).toArray)] rfl hH ?_
  have hal := ha.len
  have hbl := hb.len
  clear hH
  refine CJ.seq fun _ hK1 _ => ?_
  refine CJ.region ?_
  refine J.box rfl rfl rfl fun g2 => ?_
  refine J.box rfl rfl rfl fun g3 => ?_
  refine J.p (PR.assign rfl) rfl ?_
  refine J.nil ?_
  refine EJ.thenN (hK1 ?_)
  refine CJ.seq fun _ hK2 _ => ?_
  refine CJ.seq fun _ hK3 _ => ?_
  refine CJ.region ?_
  refine J.p (PR.assign rfl) rfl ?_
  refine J.nil ?_
  refine EJ.thenN (hK3 ?_)
  refine CJ.block ?_
  refine CJ.loopU (σ := Nat) (fun (k : Nat) => [(5, .int .i64 (k : Int))]) (fun (k : Nat) => H) (fun (k : Nat) => obj g3 (.cells (bytesC b).toArray 64 (0, 0)) :: obj g2 (.cells (bytesC a).toArray 64 (0, 0)) :: L) (fun (k : Nat) => k ≤ 8 ∧ ∀ j, j < k → a.getD j 0 = b.getD j 0) (fun (k : Nat) => 8 - k) 0 ⟨by omega, fun j hj => by omega⟩ ⟨rfl, trivial⟩ rfl rfl ?_
  rintro k hI _ hAg0
  have hk := hI.1
  refine CJ.seq fun _ hK4 _ => ?_
  refine CJ.seq fun _ hK5 _ => ?_
  refine CJ.region ?_
  refine J.p (PR.move rfl) rfl ?_
  refine J.p (PR.lss rfl rfl) rfl ?_
  refine J.nil ?_
  refine EJ.thenN (hK5 ?_)
  refine CJ.condD rfl (fun hc7 => ?_) (fun hc7 => ?_)
  ·
    refine CJ.skip ?_
    refine EJ.thenN (hK4 ?_)
    refine CJ.seq fun _ hK6 _ => ?_
    refine CJ.block ?_
    refine CJ.seq fun _ hK7 _ => ?_
    refine CJ.regionD foll0 (by kernel_rfl) ?_
    refine JS.op (PR.move rfl) rfl ?_
    refine JS.op (PR.idxA1 u64 sz5 rfl rfl rfl (by omega)) rfl ?_
    refine JS.op (PR.load rfl (.s .z) (by first | exact bytesC_get (by simp [*]; omega) | exact intsC_get (by simp [*]; omega)) pl5) rfl ?_
    refine JS.op (PR.move rfl) rfl ?_
    refine JS.op (PR.idxA1 u64 sz5 rfl rfl rfl (by omega)) rfl ?_
    refine JS.op (PR.load rfl At.z (by first | exact bytesC_get (by simp [*]; omega) | exact intsC_get (by simp [*]; omega)) pl5) rfl ?_
    refine JS.op (PR.neq rfl rfl) rfl ?_
    refine JS.nil ?_
    refine EJ.thenN (hK7 ?_)
    refine CJ.condD rfl (fun h16 => ?_) (fun h16 => ?_)
    ·
      refine CJ.seq fun _ hK8 _ => ?_
      refine CJ.region ?_
      refine J.p (PR.assign rfl) rfl ?_
      refine J.nil ?_
      refine EJ.thenN (hK8 ?_)
      refine CJ.ret ?_
      refine EJ.inR ?_
      refine EJ.thenR ?_
      refine EJ.thenR ?_
      refine EJ.inR ?_
      refine EJ.thenR ?_
      refine EJ.ret1 rfl (Res.tmp rfl) fun w hH => ?_
      replace hH := hH.tail
      replace hH := hH.tail
      exact ⟨rb (decide_eq_false (fun e => h16 (by rw [e]))).symm, hH⟩
    ·
      refine CJ.skip ?_
      refine EJ.inN ?_
      refine EJ.thenN (hK6 ?_)
      refine CJ.region ?_
      refine J.p (PR.move rfl) rfl ?_
      refine J.p (PR.add rfl rfl (by first | exact nw _ (by omega) | rfl)) rfl ?_
      refine J.p (PR.assign rfl) rfl ?_
      refine J.nil ?_
      refine EJ.thenN ?_
      exact hAg0 (k + 1) ⟨by omega, upto hI.2 (by omega)⟩ (by omega) 13 rfl rfl ⟨rfl, trivial⟩ rfl rfl
  ·
    refine CJ.exit ?_
    refine EJ.thenE ?_
    refine EJ.thenE ?_
    refine EJ.inE ?_
    refine EJ.thenN (hK2 ?_)
    refine CJ.seq fun _ hK9 _ => ?_
    refine CJ.region ?_
    refine J.p (PR.assign rfl) rfl ?_
    refine J.nil ?_
    refine EJ.thenN (hK9 ?_)
    refine CJ.ret ?_
    refine EJ.ret1 rfl (Res.tmp rfl) fun w hH => ?_
    replace hH := hH.tail
    replace hH := hH.tail
    exact ⟨rb (decide_eq_true (mono_eq_of ha hb (fun j hj => hI.2 j (by omega)))).symm, hH⟩
set_option maxRecDepth 10000 in
theorem eqTerm_c {B : World} {H0 H : HP} {L : List SA} {w : World} {a : Term} {b : Term}  (ha : a.wf) (hb : b.wf) (hH : Hp B H0 H L w) :
    Calls Tryd.prog 42 [.agg a.c.toArray, .agg b.c.toArray].toArray w fun e w' => e = .returned (.bool (decide (a = b))) ∧ Hp B H0 H L w' := by
  refine CJ.enter Tryd.func42 rfl 16 rfl rfl [(0, .agg a.c.toArray), (1, .agg b.c.toArray)] rfl hH ?_
  clear hH
  refine CJ.seq fun _ hK1 _ => ?_
  refine CJ.region ?_
  refine J.box rfl rfl rfl fun g2 => ?_
  refine J.box rfl rfl rfl fun g3 => ?_
  refine J.p (PR.assign rfl) rfl ?_
  refine J.nil ?_
  refine EJ.thenN (hK1 ?_)
  refine CJ.seq fun _ hK2 _ => ?_
  refine CJ.seq fun _ hK3 _ => ?_
  refine CJ.region ?_
  refine J.p (PR.fldA u66 rfl sz64 rfl) rfl ?_
  refine J.p (PR.ldMono rfl (.s .z) ha ag64) rfl ?_
  refine J.p (PR.fldA u66 rfl sz64 rfl) rfl ?_
  refine J.p (PR.ldMono rfl At.z hb ag64) rfl ?_
  refine J.call fn64 rfl rfl fun w hH => (eqMonomial_c ha.mono hb.mono hH).mono ?_
  rintro _ w ⟨rfl, hH⟩
  refine ⟨_, rfl, fun a hF => J.of hF hH ?_⟩
  refine J.p (PR.not rfl) rfl ?_
  refine J.nil ?_
  refine EJ.thenN (hK3 ?_)
  refine CJ.cond rfl (fun h10 => ?_) (fun h10 => ?_)
  ·
    refine CJ.seq fun _ hK4 _ => ?_
    refine CJ.region ?_
    refine J.p (PR.assign rfl) rfl ?_
    refine J.nil ?_
    refine EJ.thenN (hK4 ?_)
    refine CJ.ret ?_
    refine EJ.thenR ?_
    refine EJ.ret1 rfl (Res.tmp rfl) fun w hH => ?_
    replace hH := hH.tail
    replace hH := hH.tail
    exact ⟨rb (decide_eq_false (fun e => (by rw [e] at h10; simp at h10))).symm, hH⟩
  ·
    refine CJ.skip ?_
    refine EJ.thenN (hK2 ?_)
    refine CJ.seq fun _ hK5 _ => ?_
    refine CJ.seq fun _ hK6 _ => ?_
    refine CJ.region ?_
    refine J.p (PR.fldA u66 rfl sz2 rfl) rfl ?_
    refine J.p (PR.ldFac rfl (.s .z) ha pl2) rfl ?_
    refine J.p (PR.fldA u66 rfl sz2 rfl) rfl ?_
    refine J.p (PR.ldFac rfl At.z hb pl2) rfl ?_
    refine J.p (PR.neq rfl rfl) rfl ?_
    refine J.nil ?_
    refine EJ.thenN (hK6 ?_)
    refine CJ.condD rfl (fun h15 => ?_) (fun h15 => ?_)
    ·
      refine CJ.seq fun _ hK7 _ => ?_
      refine CJ.region ?_
      refine J.p (PR.assign rfl) rfl ?_
      refine J.nil ?_
      refine EJ.thenN (hK7 ?_)
      refine CJ.ret ?_
      refine EJ.thenR ?_
      refine EJ.ret1 rfl (Res.tmp rfl) fun w hH => ?_
      replace hH := hH.tail
      replace hH := hH.tail
      exact ⟨rb (decide_eq_false (fun e => h15 (by rw [e]))).symm, hH⟩
    ·
      refine CJ.skip ?_
      refine EJ.thenN (hK5 ?_)
      refine CJ.seq fun _ hK8 _ => ?_
      refine CJ.region ?_
      refine J.p (PR.assign rfl) rfl ?_
      refine J.nil ?_
      refine EJ.thenN (hK8 ?_)
      refine CJ.ret ?_
      refine EJ.ret1 rfl (Res.tmp rfl) fun w hH => ?_
      replace hH := hH.tail
      replace hH := hH.tail
      exact ⟨rb (decide_eq_true (Term.eq_of (of_decide_eq_true (notf h10)) (by omega))).symm, hH⟩
set_option maxRecDepth 10000 in
theorem eqTermS_c {B : World} {H0 H : HP} {L : List SA} {w : World} {qxs : Option Addr} {cxs : Nat} {xs : List Term} {qys : Option Addr} {cys : Nat} {ys : List Term}  (hxs : Terms H qxs xs) (hys : Terms H qys ys) (hn : xs.length ≤ 9223372036854775807) (hH : Hp B H0 H L w) :
    Calls Tryd.prog 23 [.slice qxs xs.length cxs, .slice qys ys.length cys].toArray w fun e w' => e = .returned (.bool (decide (xs = ys))) ∧ Hp B H0 H L w' := by
  refine CJ.enter Tryd.func23 rfl 27 rfl rfl [(0, .slice qxs xs.length cxs), (1, .slice qys ys.length cys)] rfl hH ?_
  clear hH
  refine CJ.seq fun _ hK1 _ => ?_
  refine CJ.region ?_
  refine J.p (PR.assign rfl) rfl ?_
  refine J.nil ?_
  refine EJ.thenN (hK1 ?_)
  refine CJ.seq fun _ hK2 _ => ?_
  refine CJ.seq fun _ hK3 _ => ?_
  refine CJ.region ?_
  refine J.p (PR.move rfl) rfl ?_
  refine J.p (PR.lenSlice u30 rfl rfl) rfl ?_
  refine J.p (PR.move rfl) rfl ?_
  refine J.p (PR.lenSlice u30 rfl rfl) rfl ?_
  refine J.p (PR.neq rfl rfl) rfl ?_
  refine J.nil ?_
  refine EJ.thenN (hK3 ?_)
  refine CJ.condD rfl (fun h10 => ?_) (fun h10 => ?_)
  ·
    refine CJ.seq fun _ hK4 _ => ?_
    refine CJ.region ?_
    refine J.p (PR.assign rfl) rfl ?_
    refine J.nil ?_
    refine EJ.thenN (hK4 ?_)
    refine CJ.ret ?_
    refine EJ.thenR ?_
    refine EJ.ret1 rfl (Res.tmp rfl) fun w hH => ?_
    exact ⟨rb (decide_eq_false (fun e => h10 (by rw [e]))).symm, hH⟩
  ·
    refine CJ.skip ?_
    refine EJ.thenN (hK2 ?_)
    refine CJ.seq fun _ hK5 _ => ?_
    refine CJ.seq fun _ hK6 _ => ?_
    refine CJ.region ?_
    refine J.p (PR.assign rfl) rfl ?_
    refine J.nil ?_
    refine EJ.thenN (hK6 ?_)
    refine CJ.block ?_
    refine CJ.loopU (σ := Nat) (fun (k : Nat) => [(5, .int .i64 (k : Int))]) (fun (k : Nat) => H) (fun (k : Nat) => L) (fun (k : Nat) => k ≤ xs.length ∧ ∀ j, j < k → tm xs j = tm ys j) (fun (k : Nat) => xs.length - k) 0 ⟨by omega, fun j hj => by omega⟩ ⟨rfl, trivial⟩ rfl rfl ?_
    rintro k hI _ hAg0
    have hk := hI.1
    refine CJ.seq fun _ hK7 _ => ?_
    refine CJ.seq fun _ hK8 _ => ?_
    refine CJ.region ?_
    refine J.p (PR.move rfl) rfl ?_
    refine J.p (PR.move rfl) rfl ?_
    refine J.p (PR.lenSlice u30 rfl rfl) rfl ?_
    refine J.p (PR.lss rfl rfl) rfl ?_
    refine J.nil ?_
    refine EJ.thenN (hK8 ?_)
    refine CJ.condD rfl (fun hc14 => ?_) (fun hc14 => ?_)
    ·
      refine CJ.skip ?_
      refine EJ.thenN (hK7 ?_)
      refine CJ.seq fun _ hK9 _ => ?_
      refine CJ.block ?_
      refine CJ.seq fun _ hK10 _ => ?_
      refine CJ.head [[], [], [0, 1], [2], [], [], [4, 5], [6]] (by kernel_rfl) ?_
      refine HJ.op (fun gh => PR.move rfl) ?_
      refine HJ.op (fun gh => PR.move rfl) ?_
      refine HJ.op (fun gh => PR.idx u30 sz66 rfl rfl rfl (by omega) hxs.sm) ?_
      refine HJ.op (fun gh => PR.loadHagg rfl (hxs.cell _ (by omega)) (hxs.sm (i := k) (by omega)) (by rw [Term.c_length (hxs.wf _ (by omega))]; exact ag66)) ?_
      refine HJ.op (fun gh => PR.move rfl) ?_
      refine HJ.op (fun gh => PR.move rfl) ?_
      refine HJ.op (fun gh => PR.idx u30 sz66 rfl rfl rfl (by omega) hys.sm) ?_
      refine HJ.op (fun gh => PR.loadHagg rfl (hys.cell _ (by omega)) (hys.sm (i := k) (by omega)) (by rw [Term.c_length (hys.wf _ (by omega))]; exact ag66)) ?_
      refine HJ.close 8 1 foll0 (by kernel_rfl) rfl rfl fun gh => ?_
      refine J.conv (us' := (17, _) :: (18, _) :: (19, _) :: (20, _) :: (21, _) :: (22, _) :: (23, _) :: (24, _) :: _) (L' := _) rfl rfl ?_
      refine J.call fn42 rfl rfl fun w hH => (eqTerm_c (hxs.wf k (by omega)) (hys.wf k (by omega)) hH).mono ?_
      rintro _ w ⟨rfl, hH⟩
      refine ⟨_, rfl, fun a hF => J.of hF hH ?_⟩
      refine J.nil ?_
      refine EJ.still ?_
      refine JS.op (PR.not rfl) rfl ?_
      refine JS.nil ?_
      refine EJ.thenN (hK10 ?_)
      refine CJ.cond rfl (fun h26 => ?_) (fun h26 => ?_)
      ·
        refine CJ.seq fun _ hK11 _ => ?_
        refine CJ.region ?_
        refine J.p (PR.assign rfl) rfl ?_
        refine J.nil ?_
        refine EJ.thenN (hK11 ?_)
        refine CJ.ret ?_
        refine EJ.inR ?_
        refine EJ.thenR ?_
        refine EJ.thenR ?_
        refine EJ.inR ?_
        refine EJ.thenR ?_
        refine EJ.ret1 rfl (Res.tmp rfl) fun w hH => ?_
        exact ⟨rb (decide_eq_false (fun e => (by rw [e] at h26; simp at h26))).symm, hH⟩
      ·
        refine CJ.skip ?_
        refine EJ.inN ?_
        refine EJ.thenN (hK9 ?_)
        refine CJ.region ?_
        refine J.p (PR.move rfl) rfl ?_
        refine J.p (PR.add rfl rfl (by first | exact nw _ (by omega) | rfl)) rfl ?_
        refine J.p (PR.assign rfl) rfl ?_
        refine J.nil ?_
        refine EJ.thenN ?_
        exact hAg0 (k + 1) ⟨by omega, upto hI.2 (of_decide_eq_true (notf h26))⟩ (by omega) 18 rfl rfl ⟨rfl, trivial⟩ rfl rfl
    ·
      refine CJ.exit ?_
      refine EJ.thenE ?_
      refine EJ.thenE ?_
      refine EJ.inE ?_
      refine EJ.thenN (hK5 ?_)
      refine CJ.seq fun _ hK12 _ => ?_
      refine CJ.region ?_
      refine J.p (PR.assign rfl) rfl ?_
      refine J.nil ?_
      refine EJ.thenN (hK12 ?_)
      refine CJ.ret ?_
      refine EJ.ret1 rfl (Res.tmp rfl) fun w hH => ?_
      exact ⟨rb (decide_eq_true (terms_eq_of (by omega) (fun j hj => hI.2 j (by omega)))).symm, hH⟩
set_option maxRecDepth 10000 in
theorem eqForm_c {B : World} {H0 H : HP} {L : List SA} {w : World} {qxs : Option Addr} {cxs : Nat} {xs : List Term} {qys : Option Addr} {cys : Nat} {ys : List Term}  (hxs : Terms H qxs xs) (hys : Terms H qys ys) (hn : xs.length ≤ 9223372036854775807) (hH : Hp B H0 H L w) :
    Calls Tryd.prog 11 [.agg [.slice qxs xs.length cxs].toArray, .agg [.slice qys ys.length cys].toArray].toArray w fun e w' => e = .returned (.bool (decide (xs = ys))) ∧ Hp B H0 H L w' := by
  refine CJ.enter Tryd.func11 rfl 11 rfl rfl [(0, .agg [.slice qxs xs.length cxs].toArray), (1, .agg [.slice qys ys.length cys].toArray)] rfl hH ?_
  clear hH
  refine CJ.seq fun _ hK1 _ => ?_
  refine CJ.region ?_
  refine J.box rfl rfl rfl fun g2 => ?_
  refine J.box rfl rfl rfl fun g3 => ?_
  refine J.p (PR.assign rfl) rfl ?_
  refine J.nil ?_
  refine EJ.thenN (hK1 ?_)
  refine CJ.seq fun _ hK2 _ => ?_
  refine CJ.seq fun _ hK3 _ => ?_
  refine CJ.region ?_
  refine J.p (PR.fldA u32 rfl sz30 rfl) rfl ?_
  refine J.p (PR.load rfl (.s .z) rfl pl30) rfl ?_
  refine J.p (PR.fldA u32 rfl sz30 rfl) rfl ?_
  refine J.p (PR.load rfl At.z rfl pl30) rfl ?_
  refine J.call fn23 rfl rfl fun w hH => (eqTermS_c hxs hys (by omega) hH).mono ?_
  rintro _ w ⟨rfl, hH⟩
  refine ⟨_, rfl, fun a hF => J.of hF hH ?_⟩
  refine J.p (PR.not rfl) rfl ?_
  refine J.nil ?_
  refine EJ.thenN (hK3 ?_)
  refine CJ.cond rfl (fun h10 => ?_) (fun h10 => ?_)
  ·
    refine CJ.seq fun _ hK4 _ => ?_
    refine CJ.region ?_
    refine J.p (PR.assign rfl) rfl ?_
    refine J.nil ?_
    refine EJ.thenN (hK4 ?_)
    refine CJ.ret ?_
    refine EJ.thenR ?_
    refine EJ.ret1 rfl (Res.tmp rfl) fun w hH => ?_
    replace hH := hH.tail
    replace hH := hH.tail
    exact ⟨rb (nott h10).symm, hH⟩
  ·
    refine CJ.skip ?_
    refine EJ.thenN (hK2 ?_)
    refine CJ.seq fun _ hK5 _ => ?_
    refine CJ.region ?_
    refine J.p (PR.assign rfl) rfl ?_
    refine J.nil ?_
    refine EJ.thenN (hK5 ?_)
    refine CJ.ret ?_
    refine EJ.ret1 rfl (Res.tmp rfl) fun w hH => ?_
    replace hH := hH.tail
    replace hH := hH.tail
    exact ⟨rb (notf h10).symm, hH⟩
set_option maxRecDepth 10000 in
theorem l01Before_c {B : World} {H0 H : HP} {L : List SA} {w : World} {a : List Int} {b : List Int}  (ha : Mono a) (hb : Mono b) (hH : Hp B H0 H L w) :
    Calls Tryd.prog 51 [.agg (bytesC a).toArray, .agg (bytesC b).toArray].toArray w fun e w' => e = .returned (.bool (before a b)) ∧ Hp B H0 H L w' := by
  refine CJ.enter Tryd.func51 rfl 24 rfl rfl [(0, .agg (bytesC a).toArray), (1, .agg (bytesC b).toArray)] rfl hH ?_
  have hal := ha.len
  have hbl := hb.len
  clear hH
  refine CJ.seq fun _ hK1 _ => ?_
  refine CJ.region ?_
  refine J.box rfl rfl rfl fun g2 => ?_
  refine J.box rfl rfl rfl fun g3 => ?_
  refine J.p (PR.assign rfl) rfl ?_
  refine J.nil ?_
  refine EJ.thenN (hK1 ?_)
  refine CJ.seq fun _ hK2 _ => ?_
  refine CJ.seq fun _ hK3 _ => ?_
  refine CJ.region ?_
  refine J.p (PR.assign rfl) rfl ?_
  refine J.nil ?_
  refine EJ.thenN (hK3 ?_)
  refine CJ.block ?_
  refine CJ.loopU (σ := Nat) (fun (k : Nat) => [(5, .int .i64 (k : Int))]) (fun (k : Nat) => H) (fun (k : Nat) => obj g3 (.cells (bytesC b).toArray 64 (0, 0)) :: obj g2 (.cells (bytesC a).toArray 64 (0, 0)) :: L) (fun (k : Nat) => k ≤ 8 ∧ ∀ j, j < k → a.getD j 0 = b.getD j 0) (fun (k : Nat) => 8 - k) 0 ⟨by omega, fun j hj => by omega⟩ ⟨rfl, trivial⟩ rfl rfl ?_
  rintro k hI _ hAg0
  have hk := hI.1
  refine CJ.seq fun _ hK4 _ => ?_
  refine CJ.seq fun _ hK5 _ => ?_
  refine CJ.region ?_
  refine J.p (PR.move rfl) rfl ?_
  refine J.p (PR.lss rfl rfl) rfl ?_
  refine J.nil ?_
  refine EJ.thenN (hK5 ?_)
  refine CJ.condD rfl (fun hc7 => ?_) (fun hc7 => ?_)
  ·
    refine CJ.skip ?_
    refine EJ.thenN (hK4 ?_)
    refine CJ.seq fun _ hK6 _ => ?_
    refine CJ.block ?_
    refine CJ.seq fun _ hK7 _ => ?_
    refine CJ.regionD foll0 (by kernel_rfl) ?_
    refine JS.op (PR.move rfl) rfl ?_
    refine JS.op (PR.idxA1 u64 sz5 rfl rfl rfl (by omega)) rfl ?_
    refine JS.op (PR.load rfl (.s .z) (by first | exact bytesC_get (by simp [*]; omega) | exact intsC_get (by simp [*]; omega)) pl5) rfl ?_
    refine JS.op (PR.move rfl) rfl ?_
    refine JS.op (PR.idxA1 u64 sz5 rfl rfl rfl (by omega)) rfl ?_
    refine JS.op (PR.load rfl At.z (by first | exact bytesC_get (by simp [*]; omega) | exact intsC_get (by simp [*]; omega)) pl5) rfl ?_
    refine JS.op (PR.neq rfl rfl) rfl ?_
    refine JS.nil ?_
    refine EJ.thenN (hK7 ?_)
    refine CJ.condD rfl (fun h16 => ?_) (fun h16 => ?_)
    ·
      refine CJ.seq fun _ hK8 _ => ?_
      refine CJ.regionD foll0 (by kernel_rfl) ?_
      refine JS.op (PR.move rfl) rfl ?_
      refine JS.op (PR.idxA1 u64 sz5 rfl rfl rfl (by omega)) rfl ?_
      refine JS.op (PR.load rfl (.s .z) (by first | exact bytesC_get (by simp [*]; omega) | exact intsC_get (by simp [*]; omega)) pl5) rfl ?_
      refine JS.op (PR.move rfl) rfl ?_
      refine JS.op (PR.idxA1 u64 sz5 rfl rfl rfl (by omega)) rfl ?_
      refine JS.op (PR.load rfl At.z (by first | exact bytesC_get (by simp [*]; omega) | exact intsC_get (by simp [*]; omega)) pl5) rfl ?_
      refine JS.op (PR.gtr rfl rfl) rfl ?_
      refine JS.op (PR.assign rfl) rfl ?_
      refine JS.nil ?_
      refine EJ.thenN (hK8 ?_)
      refine CJ.ret ?_
      refine EJ.inR ?_
      refine EJ.thenR ?_
      refine EJ.thenR ?_
      refine EJ.inR ?_
      refine EJ.thenR ?_
      refine EJ.ret1 rfl (Res.tmp rfl) fun w hH => ?_
      replace hH := hH.tail
      replace hH := hH.tail
      exact ⟨rb (before_hit (by omega) hI.2 h16).symm, hH⟩
    ·
      refine CJ.skip ?_
      refine EJ.inN ?_
      refine EJ.thenN (hK6 ?_)
      refine CJ.region ?_
      refine J.p (PR.move rfl) rfl ?_
      refine J.p (PR.add rfl rfl (by first | exact nw _ (by omega) | rfl)) rfl ?_
      refine J.p (PR.assign rfl) rfl ?_
      refine J.nil ?_
      refine EJ.thenN ?_
      exact hAg0 (k + 1) ⟨by omega, upto hI.2 (by omega)⟩ (by omega) 13 rfl rfl ⟨rfl, trivial⟩ rfl rfl
  ·
    refine CJ.exit ?_
    refine EJ.thenE ?_
    refine EJ.thenE ?_
    refine EJ.inE ?_
    refine EJ.thenN (hK2 ?_)
    refine CJ.seq fun _ hK9 _ => ?_
    refine CJ.region ?_
    refine J.p (PR.assign rfl) rfl ?_
    refine J.nil ?_
    refine EJ.thenN (hK9 ?_)
    refine CJ.ret ?_
    refine EJ.ret1 rfl (Res.tmp rfl) fun w hH => ?_
    replace hH := hH.tail
    replace hH := hH.tail
    exact ⟨rb (before_miss (fun j hj => hI.2 j (by omega))).symm, hH⟩
set_option maxRecDepth 10000 in
theorem compare_c {B : World} {H0 H : HP} {L : List SA} {w : World} {a : List Int} {b : List Int}  (ha : a.length = 8) (hb : b.length = 8) (hsa : Small a) (hsb : Small b) (hH : Hp B H0 H L w) :
    Calls Tryd.prog 59 [.agg (intsC a).toArray, .agg (intsC b).toArray].toArray w fun e w' => e = .returned (.int .i64 (cmp a b)) ∧ Hp B H0 H L w' := by
  refine CJ.enter Tryd.func59 rfl 24 rfl rfl [(0, .agg (intsC a).toArray), (1, .agg (intsC b).toArray)] rfl hH ?_
  clear hH
  refine CJ.seq fun _ hK1 _ => ?_
  refine CJ.region ?_
  refine J.box rfl rfl rfl fun g2 => ?_
  refine J.box rfl rfl rfl fun g3 => ?_
  refine J.p (PR.assign rfl) rfl ?_
  refine J.nil ?_
  refine EJ.thenN (hK1 ?_)
  refine CJ.seq fun _ hK2 _ => ?_
  refine CJ.seq fun _ hK3 _ => ?_
  refine CJ.region ?_
  refine J.p (PR.move rfl) rfl ?_
  refine J.nil ?_
  refine EJ.thenN (hK3 ?_)
  refine CJ.block ?_
  refine CJ.loopU (σ := Nat) (fun (k : Nat) => [(6, .int .i64 (k : Int))]) (fun (k : Nat) => H) (fun (k : Nat) => obj g3 (.cells (intsC b).toArray 88 (0, 0)) :: obj g2 (.cells (intsC a).toArray 88 (0, 0)) :: L) (fun (k : Nat) => k ≤ 8 ∧ ∀ j, j < k → a.getD j 0 = b.getD j 0) (fun (k : Nat) => 8 - k) 0 ⟨by omega, fun j hj => by omega⟩ ⟨rfl, trivial⟩ rfl rfl ?_
  rintro k hI _ hAg0
  have hk := hI.1
  have ba := hsa k
  have bb := hsb k
  refine CJ.seq fun _ hK4 _ => ?_
  refine CJ.region ?_
  refine J.p (PR.lss rfl rfl) rfl ?_
  refine J.nil ?_
  refine EJ.thenN (hK4 ?_)
  refine CJ.seq fun _ hK5 _ => ?_
  refine CJ.condD rfl (fun hc7 => ?_) (fun hc7 => ?_)
  ·
    refine CJ.skip ?_
    refine EJ.thenN (hK5 ?_)
    refine CJ.seq fun _ hK6 _ => ?_
    refine CJ.block ?_
    refine CJ.seq fun _ hK7 _ => ?_
    refine CJ.region ?_
    refine J.p (PR.move rfl) rfl ?_
    refine J.p (PR.assign rfl) rfl ?_
    refine J.nil ?_
    refine EJ.thenN (hK7 ?_)
    refine CJ.seq fun _ hK8 _ => ?_
    refine CJ.regionD foll0 (by kernel_rfl) ?_
    refine JS.op (PR.move rfl) rfl ?_
    refine JS.op (PR.idxA1 u88 sz3 rfl rfl rfl (by omega)) rfl ?_
    refine JS.op (PR.load rfl (.s .z) (by first | exact bytesC_get (by simp [*]; omega) | exact intsC_get (by simp [*]; omega)) pl3) rfl ?_
    refine JS.op (PR.move rfl) rfl ?_
    refine JS.op (PR.idxA1 u88 sz3 rfl rfl rfl (by omega)) rfl ?_
    refine JS.op (PR.load rfl At.z (by first | exact bytesC_get (by simp [*]; omega) | exact intsC_get (by simp [*]; omega)) pl3) rfl ?_
    refine JS.op (PR.neq rfl rfl) rfl ?_
    refine JS.nil ?_
    refine EJ.thenN (hK8 ?_)
    refine CJ.condD rfl (fun h15 => ?_) (fun h15 => ?_)
    ·
      refine CJ.seq fun _ hK9 _ => ?_
      refine CJ.regionD foll0 (by kernel_rfl) ?_
      refine JS.op (PR.move rfl) rfl ?_
      refine JS.op (PR.idxA1 u88 sz3 rfl rfl rfl (by omega)) rfl ?_
      refine JS.op (PR.load rfl At.z (by first | exact bytesC_get (by simp [*]; omega) | exact intsC_get (by simp [*]; omega)) pl3) rfl ?_
      refine JS.op (PR.move rfl) rfl ?_
      refine JS.op (PR.idxA1 u88 sz3 rfl rfl rfl (by omega)) rfl ?_
      refine JS.op (PR.load rfl (.s .z) (by first | exact bytesC_get (by simp [*]; omega) | exact intsC_get (by simp [*]; omega)) pl3) rfl ?_
      refine JS.op (PR.sub rfl rfl (by first | exact nw _ (by omega) | rfl)) rfl ?_
      refine JS.op (PR.assign rfl) rfl ?_
      refine JS.nil ?_
      refine EJ.thenN (hK9 ?_)
      refine CJ.ret ?_
      refine EJ.inR ?_
      refine EJ.thenR ?_
      refine EJ.thenR ?_
      refine EJ.inR ?_
      refine EJ.thenR ?_
      refine EJ.ret1 rfl (Res.tmp rfl) fun w hH => ?_
      replace hH := hH.tail
      replace hH := hH.tail
      exact ⟨ri (cmp_hit (by omega) hI.2 h15).symm, hH⟩
    ·
      refine CJ.skip ?_
      refine EJ.inN ?_
      refine EJ.thenN (hK6 ?_)
      refine CJ.region ?_
      refine J.p (PR.add rfl rfl (by first | exact nw _ (by omega) | rfl)) rfl ?_
      refine J.p (PR.move rfl) rfl ?_
      refine J.nil ?_
      refine EJ.thenN ?_
      exact hAg0 (k + 1) ⟨by omega, upto hI.2 (by omega)⟩ (by omega) 13 rfl rfl ⟨rfl, trivial⟩ rfl rfl
  ·
    refine CJ.exit ?_
    refine EJ.thenE ?_
    refine EJ.thenE ?_
    refine EJ.inE ?_
    refine EJ.thenN (hK2 ?_)
    refine CJ.seq fun _ hK10 _ => ?_
    refine CJ.region ?_
    refine J.p (PR.assign rfl) rfl ?_
    refine J.nil ?_
    refine EJ.thenN (hK10 ?_)
    refine CJ.ret ?_
    refine EJ.ret1 rfl (Res.tmp rfl) fun w hH => ?_
    replace hH := hH.tail
    replace hH := hH.tail
    exact ⟨ri (cmp_miss (fun j hj => hI.2 j (by omega))).symm, hH⟩
set_option maxRecDepth 10000 in
theorem isFactor_c {B : World} {H0 H : HP} {L : List SA} {w : World} {x : Int}   (hH : Hp B H0 H L w) :
    Calls Tryd.prog 57 [.int .i64 x].toArray w fun e w' => e = .returned (.bool (decide (1 ≤ x) && decide (x ≤ 10006))) ∧ Hp B H0 H L w' := by
  refine CJ.enter Tryd.func57 rfl 5 rfl rfl [(0, .int .i64 x)] rfl hH ?_
  clear hH
  refine CJ.seq fun _ hK1 _ => ?_
  refine CJ.region ?_
  refine J.p (PR.assign rfl) rfl ?_
  refine J.nil ?_
  refine EJ.thenN (hK1 ?_)
  refine CJ.seq fun _ hK2 _ => ?_
  refine CJ.region ?_
  refine J.p (PR.move rfl) rfl ?_
  refine J.call fn55 rfl rfl fun w hH => (within_c  hH).mono ?_
  rintro _ w ⟨rfl, hH⟩
  refine ⟨_, rfl, fun a hF => J.of hF hH ?_⟩
  refine J.p (PR.assign rfl) rfl ?_
  refine J.nil ?_
  refine EJ.thenN (hK2 ?_)
  refine CJ.ret ?_
  refine EJ.ret1 rfl (Res.tmp rfl) fun w hH => ?_
  exact ⟨rfl, hH⟩
end Go.Proofs.YtbjhllmcnfncdaaDoor.G
