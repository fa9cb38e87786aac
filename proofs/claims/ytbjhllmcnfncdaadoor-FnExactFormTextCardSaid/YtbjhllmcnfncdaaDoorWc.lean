/- The walks: what each Go function does, shown from its text. No condition. -/
import Derived.Test.YtbjhllmcnfncdaaDoorGAlg
import Derived.Test.YtbjhllmcnfncdaaDoorProg
import Derived.Test.YtbjhllmcnfncdaaDoorWa
import Derived.Test.YtbjhllmcnfncdaaDoorWb
set_option linter.unusedVariables false
set_option linter.unusedSimpArgs false
namespace Go.Proofs.YtbjhllmcnfncdaaDoor.G
open Go Go.RowKit
namespace Wc
theorem u2 : Tryd.prog.underlying 2 = some (TypeDesc.int .i64) := by kernel_rfl
theorem u22 : Tryd.prog.underlying 22 = some (TypeDesc.slice 2) := by kernel_rfl
theorem u3 : Tryd.prog.underlying 3 = some (TypeDesc.int .i64) := by kernel_rfl
theorem u5 : Tryd.prog.underlying 5 = some (TypeDesc.int .u8) := by kernel_rfl
theorem u64 : Tryd.prog.underlying 64 = some (TypeDesc.array 8 5) := by kernel_rfl
theorem u88 : Tryd.prog.underlying 88 = some (TypeDesc.array 8 3) := by kernel_rfl
theorem sz2 : Size Tryd.prog 2 1 := by unfold Size; kernel_rfl
theorem sz3 : Size Tryd.prog 3 1 := by unfold Size; kernel_rfl
theorem sz5 : Size Tryd.prog 5 1 := by unfold Size; kernel_rfl
theorem sz88 : Size Tryd.prog 88 8 := by unfold Size; kernel_rfl
theorem ze88 : Zero Tryd.prog 88 [.int .i64 0, .int .i64 0, .int .i64 0, .int .i64 0, .int .i64 0, .int .i64 0, .int .i64 0, .int .i64 0] := by unfold Zero; kernel_rfl
theorem bz88 : ∀ w, (Instr.build 88 #[]).run Tryd.prog w = .ok (.agg [.int .i64 0, .int .i64 0, .int .i64 0, .int .i64 0, .int .i64 0, .int .i64 0, .int .i64 0, .int .i64 0].toArray) w := fun _ => by kernel_rfl
theorem pl2 : Plain Tryd.prog 2 := ⟨_, u2, rfl⟩
theorem pl3 : Plain Tryd.prog 3 := ⟨_, u3, rfl⟩
theorem pl5 : Plain Tryd.prog 5 := ⟨_, u5, rfl⟩
theorem ag64 : Agg Tryd.prog 64 8 := ⟨_, u64, rfl, by kernel_rfl⟩
theorem ag88 : Agg Tryd.prog 88 8 := ⟨_, u88, rfl, by kernel_rfl⟩
theorem foll0 : Tryd.prog.follows .mixedOrders = true := by kernel_rfl
end Wc
open Wc

def wsum (ds m : List Int) : Nat → Int
  | 0 => 0
  | k + 1 => wsum ds m k + ds.getD k 0 * m.getD k 0
theorem mul_bd {a b A B : Int} (h1 : 0 ≤ a ∧ a ≤ A) (h2 : 0 ≤ b ∧ b ≤ B) : 0 ≤ a * b ∧ a * b ≤ A * B :=
  ⟨Int.mul_nonneg h1.1 h2.1, Int.mul_le_mul h1.2 h2.2 h2.1 (by omega)⟩
theorem wsum_bd {ds m : List Int} {M : Int} (hd : ∀ j, 0 ≤ ds.getD j 0 ∧ ds.getD j 0 ≤ 12) (hm : ∀ j, 0 ≤ m.getD j 0 ∧ m.getD j 0 ≤ M) : ∀ k : Nat, 0 ≤ wsum ds m k ∧ wsum ds m k ≤ k * (12 * M)
  | 0 => by simp [wsum]
  | k + 1 => by
    have h1 := wsum_bd hd hm k
    have h2 := mul_bd (hd k) (hm k)
    have e : ((k + 1 : Nat) : Int) * (12 * M) = k * (12 * M) + 12 * M := by rw [Int.natCast_add, Int.add_mul]; simp
    rw [e]
    simp only [wsum]
    omega
theorem isDeg_bd {ds : List Int} (h : isDeg ds = true) : ∀ j, 0 ≤ ds.getD j 0 ∧ ds.getD j 0 ≤ 12 := by
  intro j
  rcases Nat.lt_or_ge j ds.length with hj | hj
  · unfold isDeg at h
    rw [Bool.and_eq_true] at h
    have := List.all_eq_true.1 h.2 (ds.getD j 0) (by rw [List.getD_eq_getElem?_getD, List.getElem?_eq_getElem hj]; exact List.getElem_mem hj)
    rw [Bool.and_eq_true, decide_eq_true_eq, decide_eq_true_eq] at this
    omega
  · rw [List.getD_eq_getElem?_getD, List.getElem?_eq_none hj]
    simp
theorem isDeg_len {ds : List Int} (h : isDeg ds = true) : ds.length ≤ 8 := by
  unfold isDeg at h
  rw [Bool.and_eq_true, decide_eq_true_eq] at h
  exact h.1
/-- exponents within sight -/
def Small (p : List Int) : Prop := ∀ j, 0 ≤ p.getD j 0 ∧ p.getD j 0 ≤ 1000000
theorem Mono.small {m : List Int} (h : Mono m) : Small m := fun j => by have := h.bd j; omega

set_option maxRecDepth 10000 in
theorem powerOf_c {B : World} {H0 H : HP} {L : List SA} {w : World} {m : List Int}  (hm : Mono m) (hH : Hp B H0 H L w) :
    Calls Tryd.prog 58 [.agg (bytesC m).toArray].toArray w fun e w' => e = .returned (.agg (intsC m).toArray) ∧ Hp B H0 H L w' := by
  refine CJ.enter Tryd.func58 rfl 18 rfl rfl [(0, .agg (bytesC m).toArray)] rfl hH ?_
  have hml := hm.len
  clear hH
  refine CJ.seq fun _ hK1 _ => ?_
  refine CJ.region ?_
  refine J.box rfl rfl rfl fun g1 => ?_
  refine J.alloc ze88 rfl fun g2 => ?_
  refine J.nil ?_
  refine EJ.thenN (hK1 ?_)
  refine CJ.seq fun _ hK2 _ => ?_
  refine CJ.region ?_
  refine J.p (PR.buildZ bz88) rfl ?_
  refine J.alloc ze88 rfl fun g3 => ?_
  refine J.storeAll rfl rfl (by first | exact bytesC_one _ | exact intsC_one _ | exact Term.c_one _ | simp [Value.oneCell']) (by simpa [*] using sz88) (by simp [*]) At.z ?_
  refine J.nil ?_
  refine EJ.thenN (hK2 ?_)
  refine CJ.seq fun _ hK3 _ => ?_
  refine CJ.seq fun _ hK4 _ => ?_
  refine CJ.region ?_
  refine J.p (PR.loadAll rfl (.s (.s .z)) (by simpa [*] using ag64)) rfl ?_
  refine J.p (PR.move rfl) rfl ?_
  refine J.nil ?_
  refine EJ.thenN (hK4 ?_)
  refine CJ.block ?_
  refine CJ.loopU (σ := Nat) (fun (k : Nat) => [(8, .int .i64 (k : Int))]) (fun (k : Nat) => H) (fun (k : Nat) => obj g3 (.cells (intsC (m.take k ++ List.replicate (m.length - k) 0)).toArray 88 (0, 0)) :: obj g2 (.cells (intsC (List.replicate 8 0)).toArray 88 (0, 0)) :: obj g1 (.cells (bytesC m).toArray 64 (0, 0)) :: L) (fun (k : Nat) => k ≤ 8) (fun (k : Nat) => 8 - k) 0 (by omega) ⟨rfl, trivial⟩ rfl (by rw [hml]; rfl) ?_
  rintro k hI _ hAg0
  have hb := hm.bd k
  refine CJ.seq fun _ hK5 _ => ?_
  refine CJ.region ?_
  refine J.p (PR.lss rfl rfl) rfl ?_
  refine J.nil ?_
  refine EJ.thenN (hK5 ?_)
  refine CJ.seq fun _ hK6 _ => ?_
  refine CJ.condD rfl (fun hc9 => ?_) (fun hc9 => ?_)
  ·
    refine CJ.skip ?_
    refine EJ.thenN (hK6 ?_)
    refine CJ.seq fun _ hK7 _ => ?_
    refine CJ.block ?_
    refine CJ.seq fun _ hK8 _ => ?_
    refine CJ.region ?_
    refine J.p (PR.move rfl) rfl ?_
    refine J.p (PR.index u64 sz5 pl5 rfl rfl rfl (by omega) (bytesC_get (by omega))) rfl ?_
    refine J.p (PR.assign rfl) rfl ?_
    refine J.p (PR.assign rfl) rfl ?_
    refine J.nil ?_
    refine EJ.thenN (hK8 ?_)
    refine CJ.region ?_
    refine J.p (PR.move rfl) rfl ?_
    refine J.p (PR.move rfl) rfl ?_
    refine J.p (PR.conv u5 u3 rfl (by first | exact nw _ (by omega) | rfl)) rfl ?_
    refine J.p (PR.idxA1 u88 sz3 rfl rfl rfl (by omega)) rfl ?_
    refine J.storeI rfl rfl sz3 (by simp; omega) At.z ?_
    refine J.nil ?_
    refine EJ.inN ?_
    refine EJ.thenN (hK7 ?_)
    refine CJ.region ?_
    refine J.p (PR.add rfl rfl (by first | exact nw _ (by omega) | rfl)) rfl ?_
    refine J.p (PR.move rfl) rfl ?_
    refine J.nil ?_
    refine EJ.thenN ?_
    exact hAg0 (k + 1) (by omega) (by omega) 12 rfl rfl ⟨rfl, trivial⟩ rfl (by rw [← fill_step (by omega)])
  ·
    refine CJ.exit ?_
    refine EJ.thenE ?_
    refine EJ.thenE ?_
    refine EJ.inE ?_
    refine EJ.thenN (hK3 ?_)
    refine CJ.seq fun _ hK9 _ => ?_
    refine CJ.region ?_
    refine J.p (PR.loadAll rfl At.z (by simpa [*] using ag88)) rfl ?_
    refine J.storeAll rfl rfl (by first | exact bytesC_one _ | exact intsC_one _ | exact Term.c_one _ | simp [Value.oneCell']) (by simpa [*] using sz88) (by simp [*]) (.s .z) ?_
    refine J.nil ?_
    refine EJ.thenN (hK9 ?_)
    refine CJ.ret ?_
    refine EJ.ret1 rfl (Res.agg rfl (.s .z) (by simpa [*] using ag88)) fun w hH => ?_
    replace hH := hH.tail
    replace hH := hH.tail
    replace hH := hH.tail
    obtain rfl : k = m.length := by omega
    exact ⟨by rw [fill_end], hH⟩
set_option maxRecDepth 10000 in
theorem degree_c {B : World} {H0 H : HP} {L : List SA} {w : World} {p : List Int} {qds : Option Addr} {cds : Nat} {ds : List Int}  (hp : p.length = 8) (hds : Ints H qds ds) (hn : ds.length ≤ 8) (hd : ∀ j, 0 ≤ ds.getD j 0 ∧ ds.getD j 0 ≤ 12) (hs : Small p) (hH : Hp B H0 H L w) :
    Calls Tryd.prog 92 [.agg (intsC p).toArray, .slice qds ds.length cds].toArray w fun e w' => e = .returned (.int .i64 (wsum ds p ds.length)) ∧ Hp B H0 H L w' := by
  refine CJ.enter Tryd.func92 rfl 24 rfl rfl [(0, .agg (intsC p).toArray), (1, .slice qds ds.length cds)] rfl hH ?_
  clear hH
  refine CJ.seq fun _ hK1 _ => ?_
  refine CJ.region ?_
  refine J.box rfl rfl rfl fun g2 => ?_
  refine J.p (PR.assign rfl) rfl ?_
  refine J.nil ?_
  refine EJ.thenN (hK1 ?_)
  refine CJ.seq fun _ hK2 _ => ?_
  refine CJ.region ?_
  refine J.p (PR.assign rfl) rfl ?_
  refine J.nil ?_
  refine EJ.thenN (hK2 ?_)
  refine CJ.seq fun _ hK3 _ => ?_
  refine CJ.seq fun _ hK4 _ => ?_
  refine CJ.region ?_
  refine J.p (PR.move rfl) rfl ?_
  refine J.p (PR.lenSlice u22 rfl rfl) rfl ?_
  refine J.p (PR.move rfl) rfl ?_
  refine J.nil ?_
  refine EJ.thenN (hK4 ?_)
  refine CJ.block ?_
  refine CJ.loopU (σ := Nat) (fun (k : Nat) => [(10, .int .i64 (k : Int)), (5, .int .i64 (wsum ds p k))]) (fun (k : Nat) => H) (fun (k : Nat) => obj g2 (.cells (intsC p).toArray 88 (0, 0)) :: L) (fun (k : Nat) => k ≤ ds.length) (fun (k : Nat) => ds.length - k) 0 (by omega) ⟨rfl, ⟨rfl, trivial⟩⟩ rfl rfl ?_
  rintro k hI _ hAg0
  have hk := hI
  have b1 := wsum_bd hd hs k
  have b2 := mul_bd (hd k) (hs k)
  refine CJ.seq fun _ hK5 _ => ?_
  refine CJ.region ?_
  refine J.p (PR.lss rfl rfl) rfl ?_
  refine J.nil ?_
  refine EJ.thenN (hK5 ?_)
  refine CJ.seq fun _ hK6 _ => ?_
  refine CJ.condD rfl (fun hc11 => ?_) (fun hc11 => ?_)
  ·
    refine CJ.skip ?_
    refine EJ.thenN (hK6 ?_)
    refine CJ.seq fun _ hK7 _ => ?_
    refine CJ.block ?_
    refine CJ.seq fun _ hK8 _ => ?_
    refine CJ.region ?_
    refine J.p (PR.move rfl) rfl ?_
    refine J.p (PR.idx1 u22 sz2 rfl rfl rfl (by omega) hds.sm) rfl ?_
    refine J.p (PR.loadH rfl (hds _ (by omega)) pl2) rfl ?_
    refine J.p (PR.assign rfl) rfl ?_
    refine J.p (PR.assign rfl) rfl ?_
    refine J.nil ?_
    refine EJ.thenN (hK8 ?_)
    refine CJ.region ?_
    refine J.p (PR.move rfl) rfl ?_
    refine J.p (PR.move rfl) rfl ?_
    refine J.p (PR.move rfl) rfl ?_
    refine J.p (PR.idxA1 u88 sz3 rfl rfl rfl (by omega)) rfl ?_
    refine J.p (PR.load rfl At.z (by first | exact bytesC_get (by simp [*]; omega) | exact intsC_get (by simp [*]; omega)) pl3) rfl ?_
    refine J.p (PR.mul rfl rfl (by first | exact nw _ (by omega) | rfl)) rfl ?_
    refine J.p (PR.add rfl rfl (by first | exact nw _ (by omega) | rfl)) rfl ?_
    refine J.p (PR.assign rfl) rfl ?_
    refine J.nil ?_
    refine EJ.inN ?_
    refine EJ.thenN (hK7 ?_)
    refine CJ.region ?_
    refine J.p (PR.add rfl rfl (by first | exact nw _ (by omega) | rfl)) rfl ?_
    refine J.p (PR.move rfl) rfl ?_
    refine J.nil ?_
    refine EJ.thenN ?_
    exact hAg0 (k + 1) (by omega) (by omega) 18 rfl rfl ⟨rfl, ⟨rfl, trivial⟩⟩ rfl rfl
  ·
    refine CJ.exit ?_
    refine EJ.thenE ?_
    refine EJ.thenE ?_
    refine EJ.inE ?_
    refine EJ.thenN (hK3 ?_)
    refine CJ.seq fun _ hK9 _ => ?_
    refine CJ.region ?_
    refine J.p (PR.move rfl) rfl ?_
    refine J.p (PR.assign rfl) rfl ?_
    refine J.nil ?_
    refine EJ.thenN (hK9 ?_)
    refine CJ.ret ?_
    refine EJ.ret1 rfl (Res.tmp rfl) fun w hH => ?_
    replace hH := hH.tail
    obtain rfl : k = ds.length := by omega
    exact ⟨rfl, hH⟩
set_option maxRecDepth 10000 in
theorem l01Weight_c {B : World} {H0 H : HP} {L : List SA} {w : World} {qds : Option Addr} {cds : Nat} {ds : List Int} {m : List Int}  (hds : Ints H qds ds) (hm : Mono m) (hn : ds.length ≤ 8) (hd : ∀ j, 0 ≤ ds.getD j 0 ∧ ds.getD j 0 ≤ 12) (hH : Hp B H0 H L w) :
    Calls Tryd.prog 65 [.slice qds ds.length cds, .agg (bytesC m).toArray].toArray w fun e w' => e = .returned (.int .i64 (wsum ds m ds.length)) ∧ Hp B H0 H L w' := by
  refine CJ.enter Tryd.func65 rfl 25 rfl rfl [(0, .slice qds ds.length cds), (1, .agg (bytesC m).toArray)] rfl hH ?_
  have hml := hm.len
  clear hH
  refine CJ.seq fun _ hK1 _ => ?_
  refine CJ.region ?_
  refine J.box rfl rfl rfl fun g3 => ?_
  refine J.p (PR.assign rfl) rfl ?_
  refine J.nil ?_
  refine EJ.thenN (hK1 ?_)
  refine CJ.seq fun _ hK2 _ => ?_
  refine CJ.region ?_
  refine J.p (PR.assign rfl) rfl ?_
  refine J.nil ?_
  refine EJ.thenN (hK2 ?_)
  refine CJ.seq fun _ hK3 _ => ?_
  refine CJ.seq fun _ hK4 _ => ?_
  refine CJ.region ?_
  refine J.p (PR.assign rfl) rfl ?_
  refine J.nil ?_
  refine EJ.thenN (hK4 ?_)
  refine CJ.block ?_
  refine CJ.loopU (σ := Nat) (fun (k : Nat) => [(6, .int .i64 (k : Int)), (5, .int .i64 (wsum ds m k))]) (fun (k : Nat) => H) (fun (k : Nat) => obj g3 (.cells (bytesC m).toArray 64 (0, 0)) :: L) (fun (k : Nat) => k ≤ ds.length) (fun (k : Nat) => ds.length - k) 0 (by omega) ⟨rfl, ⟨rfl, trivial⟩⟩ rfl rfl ?_
  rintro k hI _ hAg0
  have hk := hI
  have b1 := wsum_bd hd hm.small k
  have b2 := mul_bd (hd k) (hm.small k)
  have hb := hm.bd k
  refine CJ.seq fun _ hK5 _ => ?_
  refine CJ.seq fun _ hK6 _ => ?_
  refine CJ.region ?_
  refine J.p (PR.move rfl) rfl ?_
  refine J.p (PR.move rfl) rfl ?_
  refine J.p (PR.lenSlice u22 rfl rfl) rfl ?_
  refine J.p (PR.lss rfl rfl) rfl ?_
  refine J.nil ?_
  refine EJ.thenN (hK6 ?_)
  refine CJ.condD rfl (fun hc10 => ?_) (fun hc10 => ?_)
  ·
    refine CJ.skip ?_
    refine EJ.thenN (hK5 ?_)
    refine CJ.seq fun _ hK7 _ => ?_
    refine CJ.block ?_
    refine CJ.regionD foll0 (by kernel_rfl) ?_
    refine JS.op (PR.move rfl) rfl ?_
    refine JS.op (PR.move rfl) rfl ?_
    refine JS.op (PR.move rfl) rfl ?_
    refine JS.op (PR.idx1 u22 sz2 rfl rfl rfl (by omega) hds.sm) rfl ?_
    refine JS.op (PR.loadH rfl (hds _ (by omega)) pl2) rfl ?_
    refine JS.op (PR.move rfl) rfl ?_
    refine JS.op (PR.idxA1 u64 sz5 rfl rfl rfl (by omega)) rfl ?_
    refine JS.op (PR.load rfl At.z (by first | exact bytesC_get (by simp [*]; omega) | exact intsC_get (by simp [*]; omega)) pl5) rfl ?_
    refine JS.op (PR.conv u5 u2 rfl (by first | exact nw _ (by omega) | rfl)) rfl ?_
    refine JS.op (PR.mul rfl rfl (by first | exact nw _ (by omega) | rfl)) rfl ?_
    refine JS.op (PR.add rfl rfl (by first | exact nw _ (by omega) | rfl)) rfl ?_
    refine JS.op (PR.assign rfl) rfl ?_
    refine JS.nil ?_
    refine EJ.inN ?_
    refine EJ.thenN (hK7 ?_)
    refine CJ.region ?_
    refine J.p (PR.move rfl) rfl ?_
    refine J.p (PR.add rfl rfl (by first | exact nw _ (by omega) | rfl)) rfl ?_
    refine J.p (PR.assign rfl) rfl ?_
    refine J.nil ?_
    refine EJ.thenN ?_
    exact hAg0 (k + 1) (by omega) (by omega) 21 rfl rfl ⟨rfl, ⟨rfl, trivial⟩⟩ rfl rfl
  ·
    refine CJ.exit ?_
    refine EJ.thenE ?_
    refine EJ.thenE ?_
    refine EJ.inE ?_
    refine EJ.thenN (hK3 ?_)
    refine CJ.seq fun _ hK8 _ => ?_
    refine CJ.region ?_
    refine J.p (PR.move rfl) rfl ?_
    refine J.p (PR.assign rfl) rfl ?_
    refine J.nil ?_
    refine EJ.thenN (hK8 ?_)
    refine CJ.ret ?_
    refine EJ.ret1 rfl (Res.tmp rfl) fun w hH => ?_
    replace hH := hH.tail
    obtain rfl : k = ds.length := by omega
    exact ⟨rfl, hH⟩
end Go.Proofs.YtbjhllmcnfncdaaDoor.G
