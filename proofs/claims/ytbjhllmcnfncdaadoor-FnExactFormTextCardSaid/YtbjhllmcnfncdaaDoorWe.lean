/- The walks: what each Go function does, shown from its text. No condition. -/
import Derived.Test.YtbjhllmcnfncdaaDoorGAlg
import Derived.Test.YtbjhllmcnfncdaaDoorProg
import Derived.Test.YtbjhllmcnfncdaaDoorWa
import Derived.Test.YtbjhllmcnfncdaaDoorWb
import Derived.Test.YtbjhllmcnfncdaaDoorWc
import Derived.Test.YtbjhllmcnfncdaaDoorWd
set_option linter.unusedVariables false
set_option linter.unusedSimpArgs false
namespace Go.Proofs.YtbjhllmcnfncdaaDoor.G
open Go Go.RowKit
namespace We
theorem u2 : Tryd.prog.underlying 2 = some (TypeDesc.int .i64) := by kernel_rfl
theorem u30 : Tryd.prog.underlying 30 = some (TypeDesc.slice 66) := by kernel_rfl
theorem u32 : Tryd.prog.underlying 32 = some (TypeDesc.struct #[{ name := "Terms", type := 30, offset := 0, embedded := false, tag := "", pkgPath := "", byteOffset := 0 }]) := by kernel_rfl
theorem u64 : Tryd.prog.underlying 64 = some (TypeDesc.array 8 5) := by kernel_rfl
theorem u66 : Tryd.prog.underlying 66 = some (TypeDesc.struct #[{ name := "Monomial", type := 64, offset := 0, embedded := false, tag := "", pkgPath := "", byteOffset := 0 }, { name := "Factor", type := 2, offset := 8, embedded := false, tag := "", pkgPath := "", byteOffset := 8 }]) := by kernel_rfl
theorem sz2 : Size Tryd.prog 2 1 := by unfold Size; kernel_rfl
theorem sz30 : Size Tryd.prog 30 1 := by unfold Size; kernel_rfl
theorem sz64 : Size Tryd.prog 64 8 := by unfold Size; kernel_rfl
theorem sz66 : Size Tryd.prog 66 9 := by unfold Size; kernel_rfl
theorem ze66 : Zero Tryd.prog 66 [.int .u8 0, .int .u8 0, .int .u8 0, .int .u8 0, .int .u8 0, .int .u8 0, .int .u8 0, .int .u8 0, .int .i64 0] := by unfold Zero; kernel_rfl
theorem pl2 : Plain Tryd.prog 2 := ⟨_, u2, rfl⟩
theorem pl30 : Plain Tryd.prog 30 := ⟨_, u30, rfl⟩
theorem ag32 : Agg Tryd.prog 32 1 := ⟨_, u32, rfl, by kernel_rfl⟩
theorem ag64 : Agg Tryd.prog 64 8 := ⟨_, u64, rfl, by kernel_rfl⟩
theorem ag66 : Agg Tryd.prog 66 9 := ⟨_, u66, rfl, by kernel_rfl⟩
theorem fn32 : Fn Tryd.prog 32 := ⟨_, Tryd.func32, by kernel_rfl, rfl⟩
theorem fn33 : Fn Tryd.prog 33 := ⟨_, Tryd.func33, by kernel_rfl, rfl⟩
theorem fn37 : Fn Tryd.prog 37 := ⟨_, Tryd.func37, by kernel_rfl, rfl⟩
theorem fn38 : Fn Tryd.prog 38 := ⟨_, Tryd.func38, by kernel_rfl, rfl⟩
theorem fn49 : Fn Tryd.prog 49 := ⟨_, Tryd.func49, by kernel_rfl, rfl⟩
theorem fn50 : Fn Tryd.prog 50 := ⟨_, Tryd.func50, by kernel_rfl, rfl⟩
theorem fn51 : Fn Tryd.prog 51 := ⟨_, Tryd.func51, by kernel_rfl, rfl⟩
theorem fn56 : Fn Tryd.prog 56 := ⟨_, Tryd.func56, by kernel_rfl, rfl⟩
theorem fn57 : Fn Tryd.prog 57 := ⟨_, Tryd.func57, by kernel_rfl, rfl⟩
theorem fn58 : Fn Tryd.prog 58 := ⟨_, Tryd.func58, by kernel_rfl, rfl⟩
theorem fn59 : Fn Tryd.prog 59 := ⟨_, Tryd.func59, by kernel_rfl, rfl⟩
theorem foll0 : Tryd.prog.follows .mixedOrders = true := by kernel_rfl
end We
open We

theorem good_mono {ds : List Int} {ts : List Term} {i : Nat} (h : isMono ds (tm ts i).mono = false) : goodAt ds ts i = false := by unfold goodAt; rw [h]; rfl
theorem good_fac {ds : List Int} {ts : List Term} {i : Nat} (h : (decide (1 ≤ (tm ts i).fac) && decide ((tm ts i).fac ≤ 10006)) = false) : goodAt ds ts i = false := by unfold goodAt; rw [h, Bool.and_false]; rfl
theorem good_ord {ds : List Int} {ts : List Term} {i : Nat} (h0 : 0 < i) (h : before (tm ts (i - 1)).mono (tm ts i).mono = false) : goodAt ds ts i = false := by unfold goodAt; rw [h, show decide (i = 0) = false from decide_eq_false (by omega)]; simp
theorem good_yes {ds : List Int} {ts : List Term} {i : Nat} (h1 : isMono ds (tm ts i).mono = true) (h2 : (decide (1 ≤ (tm ts i).fac) && decide ((tm ts i).fac ≤ 10006)) = true) (h3 : i = 0 ∨ before (tm ts (i - 1)).mono (tm ts i).mono = true) : goodAt ds ts i = true := by
  unfold goodAt
  rw [h1, h2]
  rcases h3 with h3 | h3
  · rw [decide_eq_true h3]; rfl
  · rw [h3]; simp
theorem before_le {p q : List Int} (h : cmp p q ≥ 0) : before p q = false := decide_eq_false (by omega)
theorem before_lt {p q : List Int} (h : ¬ cmp p q ≥ 0) : before p q = true := decide_eq_true (by omega)

set_option maxHeartbeats 4000000 in
set_option maxRecDepth 10000 in
theorem isForm_c {B : World} {H0 H : HP} {L : List SA} {w : World} {qds : Option Addr} {cds : Nat} {ds : List Int} {qts : Option Addr} {cts : Nat} {ts : List Term}  (hds : Ints H qds ds) (hts : Terms H qts ts) (hn : ds.length ≤ 1048576) (hl : ts.length ≤ 9223372036854775807) (hH : Hp B H0 H L w) :
    Calls Tryd.prog 38 [.slice qds ds.length cds, .agg [.slice qts ts.length cts].toArray].toArray w fun e w' => e = .returned (.bool (isForm ds ts)) ∧ Hp B H0 H L w' := by
  refine CJ.enter Tryd.func38 rfl 48 rfl rfl [(0, .slice qds ds.length cds), (1, .agg [.slice qts ts.length cts].toArray)] rfl hH ?_
  clear hH
  refine CJ.seq fun _ hK1 _ => ?_
  refine CJ.region ?_
  refine J.box rfl rfl rfl fun g3 => ?_
  refine J.p (PR.assign rfl) rfl ?_
  refine J.nil ?_
  refine EJ.thenN (hK1 ?_)
  refine CJ.seq fun _ hK2 _ => ?_
  refine CJ.seq fun _ hK3 _ => ?_
  refine CJ.region ?_
  refine J.p (PR.fldA u32 rfl sz30 rfl) rfl ?_
  refine J.p (PR.load rfl At.z rfl pl30) rfl ?_
  refine J.p (PR.lenSlice u30 rfl rfl) rfl ?_
  refine J.p (PR.gtr rfl rfl) rfl ?_
  refine J.nil ?_
  refine EJ.thenN (hK3 ?_)
  refine CJ.condD rfl (fun h10 => ?_) (fun h10 => ?_)
  ·
    refine CJ.seq fun _ hK4 _ => ?_
    refine CJ.region ?_
    refine J.p (PR.assign rfl) rfl ?_
    refine J.nil ?_
    refine EJ.thenN (hK4 ?_)
    refine CJ.ret ?_
    refine EJ.thenR ?_
    refine EJ.ret1 rfl (Res.tmp rfl) fun w hH => ?_
    replace hH := hH.tail
    exact ⟨rb (isForm_long (by omega)).symm, hH⟩
  ·
    refine CJ.skip ?_
    refine EJ.thenN (hK2 ?_)
    refine CJ.seq fun _ hK5 _ => ?_
    refine CJ.seq fun _ hK6 _ => ?_
    refine CJ.region ?_
    refine J.p (PR.fldA u32 rfl sz30 rfl) rfl ?_
    refine J.p (PR.load rfl At.z rfl pl30) rfl ?_
    refine J.p (PR.lenSlice u30 rfl rfl) rfl ?_
    refine J.p (PR.move rfl) rfl ?_
    refine J.nil ?_
    refine EJ.thenN (hK6 ?_)
    refine CJ.block ?_
    refine CJ.loopU (σ := Nat) (fun (k : Nat) => [(14, .int .i64 (k : Int))]) (fun (k : Nat) => H) (fun (k : Nat) => obj g3 (.cells [.slice qts ts.length cts].toArray 32 (0, 0)) :: L) (fun (k : Nat) => k ≤ ts.length ∧ ∀ j, j < k → goodAt ds ts j = true) (fun (k : Nat) => ts.length - k) 0 ⟨by omega, fun j hj => by omega⟩ ⟨rfl, trivial⟩ rfl rfl ?_
    rintro k hI _ hAg0
    have hk := hI.1
    refine CJ.seq fun _ hK7 _ => ?_
    refine CJ.region ?_
    refine J.p (PR.lss rfl rfl) rfl ?_
    refine J.nil ?_
    refine EJ.thenN (hK7 ?_)
    refine CJ.seq fun _ hK8 _ => ?_
    refine CJ.condD rfl (fun hc15 => ?_) (fun hc15 => ?_)
    ·
      refine CJ.skip ?_
      refine EJ.thenN (hK8 ?_)
      refine CJ.seq fun _ hK9 _ => ?_
      refine CJ.block ?_
      refine CJ.seq fun _ hK10 _ => ?_
      refine CJ.region ?_
      refine J.p (PR.move rfl) rfl ?_
      refine J.p (PR.idx u30 sz66 rfl rfl rfl (by omega) hts.sm) rfl ?_
      refine J.p (PR.loadHagg rfl (hts.cell _ (by omega)) (hts.sm (i := k) (by omega)) (by rw [Term.c_length (hts.wf _ (by omega))]; exact ag66)) rfl ?_
      refine J.alloc (cs := (default : Term).c) ze66 rfl fun g6 => ?_
      refine J.p (PR.assign rfl) rfl ?_
      refine J.stTerm rfl rfl sz66 zero_wf (hts.wf k (by omega)) At.z ?_
      refine J.nil ?_
      refine EJ.thenN (hK10 ?_)
      refine CJ.seq fun _ hK11 _ => ?_
      refine CJ.seq fun _ hK12 _ => ?_
      refine CJ.region ?_
      refine J.p (PR.move rfl) rfl ?_
      refine J.p (PR.fldA u66 rfl sz64 rfl) rfl ?_
      refine J.p (PR.ldMono rfl At.z (hts.wf k (by omega)) ag64) rfl ?_
      refine J.call fn56 rfl rfl fun w hH => (isMonomial_c hds (hts.wf k (by omega)).mono (by omega) hH).mono ?_
      rintro _ w ⟨rfl, hH⟩
      refine ⟨_, rfl, fun a hF => J.of hF hH ?_⟩
      refine J.p (PR.not rfl) rfl ?_
      refine J.p (PR.move rfl) rfl ?_
      refine J.splitB (jd := 24) rfl (fun h24 => ?_) (fun h24 => ?_)
      ·
        try have h24p := of_decide_eq_true h24
        refine J.gn rfl rfl rfl h24 ?_
        refine J.gn rfl rfl rfl h24 ?_
        refine J.gn rfl rfl rfl h24 ?_
        refine J.gn rfl rfl rfl h24 ?_
        refine J.p (PR.pickT rfl h24 rfl) rfl ?_
        refine J.nil ?_
        refine EJ.thenN (hK12 ?_)
        refine CJ.condT rfl ?_
        refine CJ.seq fun _ hK13 _ => ?_
        refine CJ.region ?_
        refine J.p (PR.assign rfl) rfl ?_
        refine J.nil ?_
        refine EJ.thenN (hK13 ?_)
        refine CJ.ret ?_
        refine EJ.thenR ?_
        refine EJ.inR ?_
        refine EJ.thenR ?_
        refine EJ.thenR ?_
        refine EJ.inR ?_
        refine EJ.thenR ?_
        refine EJ.ret1 rfl (Res.tmp rfl) fun w hH => ?_
        replace hH := hH.tail
        replace hH := hH.tail
        exact ⟨rb (isForm_bad (k := k) (by omega) (good_mono (nott h24))).symm, hH⟩
      ·
        try have h24p := of_decide_eq_false h24
        refine J.gy (PR.fldA u66 rfl sz2 rfl) rfl rfl rfl h24 ?_
        refine J.gy (PR.ldFac rfl At.z (hts.wf k (by omega)) pl2) rfl rfl rfl h24 ?_
        refine J.gcall fn57 rfl rfl h24 rfl rfl fun w hH => (isFactor_c  hH).mono ?_
        rintro _ w ⟨rfl, hH⟩
        refine ⟨_, rfl, fun a hF => J.of hF hH ?_⟩
        refine J.gy (PR.not rfl) rfl rfl rfl h24 ?_
        refine J.p (PR.pickF rfl h24 rfl) rfl ?_
        refine J.nil ?_
        refine EJ.thenN (hK12 ?_)
        refine CJ.cond rfl (fun h29 => ?_) (fun h29 => ?_)
        ·
          refine CJ.seq fun _ hK14 _ => ?_
          refine CJ.region ?_
          refine J.p (PR.assign rfl) rfl ?_
          refine J.nil ?_
          refine EJ.thenN (hK14 ?_)
          refine CJ.ret ?_
          refine EJ.thenR ?_
          refine EJ.inR ?_
          refine EJ.thenR ?_
          refine EJ.thenR ?_
          refine EJ.inR ?_
          refine EJ.thenR ?_
          refine EJ.ret1 rfl (Res.tmp rfl) fun w hH => ?_
          replace hH := hH.tail
          replace hH := hH.tail
          exact ⟨rb (isForm_bad (k := k) (by omega) (good_fac (nott h29))).symm, hH⟩
        ·
          refine CJ.skip ?_
          refine EJ.thenN (hK11 ?_)
          refine CJ.seq fun _ hK15 _ => ?_
          refine CJ.head [[], [0], [1], [2], [3, 2], [2], [5, 2], [4, 6, 2], [7, 2], [8, 2], [9, 2], [2], [11, 2]] (by kernel_rfl) ?_
          refine HJ.op (fun gh => PR.move rfl) ?_
          refine HJ.op (fun gh => PR.gtr rfl rfl) ?_
          refine HJ.op (fun gh => PR.move rfl) ?_
          refine HJ.splitB 2 rfl (fun h32 => ?_) (fun h32 => ?_)
          ·
            try have h32p := of_decide_eq_true h32
            refine HJ.gy (fun gh => PR.fldA u32 rfl sz30 rfl) rfl (fun gh => rfl) h32 ?_
            refine HJ.gy (fun gh => PR.load rfl (.s .z) rfl pl30) rfl (fun gh => rfl) h32 ?_
            refine HJ.gy (fun gh => PR.move rfl) rfl (fun gh => rfl) h32 ?_
            refine HJ.gy (fun gh => PR.sub rfl rfl (by first | exact nw _ (by omega) | rfl)) rfl (fun gh => rfl) h32 ?_
            refine HJ.gy (fun gh => PR.idx (i' := (k - 1)) u30 sz66 rfl rfl (by omega) (by omega) hts.sm) rfl (fun gh => rfl) h32 ?_
            refine HJ.gy (fun gh => PR.fldP u66 rfl sz64 rfl (hts.sm (i := (k - 1)) (by omega))) rfl (fun gh => rfl) h32 ?_
            refine HJ.gy (fun gh => PR.loadHagg rfl (hts.mono (by omega)) (hts.sm (i := (k - 1)) (by omega)) (by rw [bytesC_length, (hts.wf _ (by omega)).mono.len]; exact ag64)) rfl (fun gh => rfl) h32 ?_
            refine HJ.gcall fn58 rfl (fun gh => rfl) h32 (fun gh => rfl) (fun w X hH => powerOf_c (hts.wf (k - 1) (by omega)).mono hH) ?_
            refine HJ.gy (fun gh => PR.fldA u66 rfl sz64 rfl) rfl (fun gh => rfl) h32 ?_
            refine HJ.gy (fun gh => PR.ldMono rfl At.z (hts.wf k (by omega)) ag64) rfl (fun gh => rfl) h32 ?_
            refine HJ.close 13 2 foll0 (by kernel_rfl) rfl rfl fun gh => ?_
            refine J.conv (us' := (30, _) :: (31, _) :: (32, _) :: (33, _) :: (34, _) :: (35, _) :: (36, _) :: (37, _) :: (38, _) :: (39, _) :: (40, _) :: (41, _) :: (42, _) :: _) (L' := _) rfl rfl ?_
            refine J.gcall fn58 rfl rfl h32 rfl rfl fun w hH => (powerOf_c (hts.wf k (by omega)).mono hH).mono ?_
            rintro _ w ⟨rfl, hH⟩
            refine ⟨_, rfl, fun a hF => J.of hF hH ?_⟩
            refine J.gcall fn59 rfl rfl h32 rfl rfl fun w hH => (compare_c (hts.wf (k - 1) (by omega)).mono.len (hts.wf k (by omega)).mono.len (hts.wf _ (by omega)).mono.small (hts.wf _ (by omega)).mono.small hH).mono ?_
            rintro _ w ⟨rfl, hH⟩
            refine ⟨_, rfl, fun a hF => J.of hF hH ?_⟩
            refine J.nil ?_
            refine EJ.still ?_
            refine JS.gy (PR.geq rfl rfl) rfl rfl rfl h32 ?_
            refine JS.op (PR.pickT rfl h32 rfl) rfl ?_
            refine JS.nil ?_
            refine EJ.thenN (hK15 ?_)
            refine CJ.condD rfl (fun h46 => ?_) (fun h46 => ?_)
            ·
              refine CJ.seq fun _ hK16 _ => ?_
              refine CJ.region ?_
              refine J.p (PR.assign rfl) rfl ?_
              refine J.nil ?_
              refine EJ.thenN (hK16 ?_)
              refine CJ.ret ?_
              refine EJ.inR ?_
              refine EJ.thenR ?_
              refine EJ.thenR ?_
              refine EJ.inR ?_
              refine EJ.thenR ?_
              refine EJ.ret1 rfl (Res.tmp rfl) fun w hH => ?_
              replace hH := hH.tail
              replace hH := hH.tail
              exact ⟨rb (isForm_bad (k := k) (by omega) (good_ord (by omega) (before_le h46))).symm, hH⟩
            ·
              refine CJ.skip ?_
              refine EJ.inN ?_
              refine EJ.thenN (hK9 ?_)
              refine CJ.region ?_
              refine J.p (PR.add rfl rfl (by first | exact nw _ (by omega) | rfl)) rfl ?_
              refine J.p (PR.move rfl) rfl ?_
              refine J.nil ?_
              refine EJ.thenN ?_
              refine EJ.drop .z ?_
              exact hAg0 (k + 1) ⟨by omega, upto hI.2 (good_yes (notf h24) (notf h29) (.inr (before_lt h46)))⟩ (by omega) 37 rfl rfl ⟨rfl, trivial⟩ rfl rfl
          ·
            try have h32p := of_decide_eq_false h32
            refine HJ.gn rfl (fun gh => rfl) h32 ?_
            refine HJ.gn rfl (fun gh => rfl) h32 ?_
            refine HJ.gn rfl (fun gh => rfl) h32 ?_
            refine HJ.gn rfl (fun gh => rfl) h32 ?_
            refine HJ.gn rfl (fun gh => rfl) h32 ?_
            refine HJ.gn rfl (fun gh => rfl) h32 ?_
            refine HJ.gn rfl (fun gh => rfl) h32 ?_
            refine HJ.gn rfl (fun gh => rfl) h32 ?_
            refine HJ.gn rfl (fun gh => rfl) h32 ?_
            refine HJ.gn rfl (fun gh => rfl) h32 ?_
            refine HJ.close 13 2 foll0 (by kernel_rfl) rfl rfl fun gh => ?_
            refine J.conv (us' := (30, _) :: (31, _) :: (32, _) :: (33, _) :: (34, _) :: (35, _) :: (36, _) :: (37, _) :: (38, _) :: (39, _) :: (40, _) :: (41, _) :: (42, _) :: _) (L' := _) rfl rfl ?_
            refine J.gn rfl rfl rfl h32 ?_
            refine J.gn rfl rfl rfl h32 ?_
            refine J.nil ?_
            refine EJ.still ?_
            refine JS.gn rfl rfl rfl h32 ?_
            refine JS.op (PR.pickF rfl h32 rfl) rfl ?_
            refine JS.nil ?_
            refine EJ.thenN (hK15 ?_)
            refine CJ.condF rfl ?_
            refine CJ.skip ?_
            refine EJ.inN ?_
            refine EJ.thenN (hK9 ?_)
            refine CJ.region ?_
            refine J.p (PR.add rfl rfl (by first | exact nw _ (by omega) | rfl)) rfl ?_
            refine J.p (PR.move rfl) rfl ?_
            refine J.nil ?_
            refine EJ.thenN ?_
            refine EJ.drop .z ?_
            exact hAg0 (k + 1) ⟨by omega, upto hI.2 (good_yes (notf h24) (notf h29) (.inl (by omega)))⟩ (by omega) 37 rfl rfl ⟨rfl, trivial⟩ rfl rfl
    ·
      refine CJ.exit ?_
      refine EJ.thenE ?_
      refine EJ.thenE ?_
      refine EJ.inE ?_
      refine EJ.thenN (hK5 ?_)
      refine CJ.seq fun _ hK17 _ => ?_
      refine CJ.region ?_
      refine J.p (PR.assign rfl) rfl ?_
      refine J.nil ?_
      refine EJ.thenN (hK17 ?_)
      refine CJ.ret ?_
      refine EJ.ret1 rfl (Res.tmp rfl) fun w hH => ?_
      replace hH := hH.tail
      exact ⟨rb ((isForm_good (fun j hj => hI.2 j (by omega))).trans (decide_eq_true (by omega))).symm, hH⟩
set_option maxHeartbeats 4000000 in
set_option maxRecDepth 10000 in
theorem l01Is_c {B : World} {H0 H : HP} {L : List SA} {w : World} {qds : Option Addr} {cds : Nat} {ds : List Int} {qts : Option Addr} {cts : Nat} {ts : List Term}  (hds : Ints H qds ds) (hts : Terms H qts ts) (hn : ds.length ≤ 1048576) (hp : ∀ j, j < ds.length → 0 ≤ ds.getD j 0) (hl : ts.length ≤ 9223372036854775807) (hH : Hp B H0 H L w) :
    Calls Tryd.prog 33 [.slice qds ds.length cds, .agg [.slice qts ts.length cts].toArray].toArray w fun e w' => e = .returned (.bool (isForm ds ts)) ∧ Hp B H0 H L w' := by
  refine CJ.enter Tryd.func33 rfl 51 rfl rfl [(0, .slice qds ds.length cds), (1, .agg [.slice qts ts.length cts].toArray)] rfl hH ?_
  clear hH
  refine CJ.seq fun _ hK1 _ => ?_
  refine CJ.region ?_
  refine J.box rfl rfl rfl fun g3 => ?_
  refine J.p (PR.assign rfl) rfl ?_
  refine J.nil ?_
  refine EJ.thenN (hK1 ?_)
  refine CJ.seq fun _ hK2 _ => ?_
  refine CJ.seq fun _ hK3 _ => ?_
  refine CJ.region ?_
  refine J.p (PR.assign rfl) rfl ?_
  refine J.nil ?_
  refine EJ.thenN (hK3 ?_)
  refine CJ.block ?_
  refine CJ.loopU (σ := Nat) (fun (k : Nat) => [(5, .int .i64 (k : Int))]) (fun (k : Nat) => H) (fun (k : Nat) => obj g3 (.cells [.slice qts ts.length cts].toArray 32 (0, 0)) :: L) (fun (k : Nat) => k ≤ ts.length ∧ ∀ j, j < k → goodAt ds ts j = true) (fun (k : Nat) => ts.length - k) 0 ⟨by omega, fun j hj => by omega⟩ ⟨rfl, trivial⟩ rfl rfl ?_
  rintro k hI _ hAg0
  have hk := hI.1
  refine CJ.seq fun _ hK4 _ => ?_
  refine CJ.seq fun _ hK5 _ => ?_
  refine CJ.region ?_
  refine J.p (PR.move rfl) rfl ?_
  refine J.p (PR.fldA u32 rfl sz30 rfl) rfl ?_
  refine J.p (PR.load rfl At.z rfl pl30) rfl ?_
  refine J.p (PR.lenSlice u30 rfl rfl) rfl ?_
  refine J.p (PR.lss rfl rfl) rfl ?_
  refine J.nil ?_
  refine EJ.thenN (hK5 ?_)
  refine CJ.condD rfl (fun hc11 => ?_) (fun hc11 => ?_)
  ·
    refine CJ.skip ?_
    refine EJ.thenN (hK4 ?_)
    refine CJ.seq fun _ hK6 _ => ?_
    refine CJ.block ?_
    refine CJ.seq fun _ hK7 _ => ?_
    refine CJ.region ?_
    refine J.p (PR.fldA u32 rfl sz30 rfl) rfl ?_
    refine J.p (PR.load rfl At.z rfl pl30) rfl ?_
    refine J.p (PR.move rfl) rfl ?_
    refine J.p (PR.idx u30 sz66 rfl rfl rfl (by omega) hts.sm) rfl ?_
    refine J.p (PR.loadHagg rfl (hts.cell _ (by omega)) (hts.sm (i := k) (by omega)) (by rw [Term.c_length (hts.wf _ (by omega))]; exact ag66)) rfl ?_
    refine J.alloc (cs := (default : Term).c) ze66 rfl fun g6 => ?_
    refine J.stTerm rfl rfl sz66 zero_wf (hts.wf k (by omega)) At.z ?_
    refine J.nil ?_
    refine EJ.thenN (hK7 ?_)
    refine CJ.seq fun _ hK8 _ => ?_
    refine CJ.head [[], [], [1], [0, 2], [3], [4], [5], [6, 5], [7, 5], [8, 5], [5, 9], [10], [11], [12, 11], [13, 11], [14], [15, 14], [14], [17, 14], [16, 18, 14], [19, 14], [20, 14], [14], [22, 14]] (by kernel_rfl) ?_
    refine HJ.op (fun gh => PR.move rfl) ?_
    refine HJ.op (fun gh => PR.fldA u66 rfl sz64 rfl) ?_
    refine HJ.op (fun gh => PR.ldMono rfl At.z (hts.wf k (by omega)) ag64) ?_
    refine HJ.call fn50 (fun gh => rfl) (fun w X hH => l01Mono_c hds (hts.wf k (by omega)).mono (by omega) hp hH) ?_
    refine HJ.op (fun gh => PR.not rfl) ?_
    refine HJ.op (fun gh => PR.move rfl) ?_
    refine HJ.splitB 5 rfl (fun h24 => ?_) (fun h24 => ?_)
    ·
      try have h24p := of_decide_eq_true h24
      refine HJ.gn rfl (fun gh => rfl) h24 ?_
      refine HJ.gn rfl (fun gh => rfl) h24 ?_
      refine HJ.gn rfl (fun gh => rfl) h24 ?_
      refine HJ.gn rfl (fun gh => rfl) h24 ?_
      refine HJ.op (fun gh => PR.pickT rfl h24 rfl) ?_
      refine HJ.op (fun gh => PR.move rfl) ?_
      refine HJ.gn rfl (fun gh => rfl) rfl ?_
      refine HJ.gn rfl (fun gh => rfl) rfl ?_
      refine HJ.gn rfl (fun gh => rfl) rfl ?_
      refine HJ.gu rfl (fun gh => rfl) ?_
      refine HJ.gu rfl (fun gh => rfl) ?_
      refine HJ.gu rfl (fun gh => rfl) ?_
      refine HJ.gu rfl (fun gh => rfl) ?_
      refine HJ.gu rfl (fun gh => rfl) ?_
      refine HJ.gu rfl (fun gh => rfl) ?_
      refine HJ.gu rfl (fun gh => rfl) ?_
      refine HJ.gu rfl (fun gh => rfl) ?_
      refine HJ.gu rfl (fun gh => rfl) ?_
      refine HJ.close 24 1 foll0 (by kernel_rfl) rfl rfl fun gh => ?_
      refine J.conv (us' := (19, _) :: (20, _) :: (21, _) :: (22, _) :: (23, _) :: (24, _) :: (25, _) :: (26, _) :: (27, _) :: (28, _) :: (29, _) :: (30, _) :: (31, _) :: (32, _) :: (33, _) :: (34, _) :: (35, _) :: (36, _) :: (37, _) :: (38, _) :: (39, _) :: (40, _) :: (41, _) :: (42, _) :: _) (L' := _) rfl rfl ?_
      refine J.gu rfl rfl rfl ?_
      refine J.nil ?_
      refine EJ.still ?_
      refine JS.gu rfl rfl rfl ?_
      refine JS.gn rfl rfl rfl rfl ?_
      refine JS.op (PR.pickT rfl rfl rfl) rfl ?_
      refine JS.nil ?_
      refine EJ.thenN (hK8 ?_)
      refine CJ.condT rfl ?_
      refine CJ.seq fun _ hK9 _ => ?_
      refine CJ.region ?_
      refine J.p (PR.assign rfl) rfl ?_
      refine J.nil ?_
      refine EJ.thenN (hK9 ?_)
      refine CJ.ret ?_
      refine EJ.inR ?_
      refine EJ.thenR ?_
      refine EJ.thenR ?_
      refine EJ.inR ?_
      refine EJ.thenR ?_
      refine EJ.ret1 rfl (Res.tmp rfl) fun w hH => ?_
      replace hH := hH.tail
      replace hH := hH.tail
      exact ⟨rb (isForm_bad (k := k) (by omega) (good_mono (nott h24))).symm, hH⟩
    ·
      try have h24p := of_decide_eq_false h24
      refine HJ.gy (fun gh => PR.fldA u66 rfl sz2 rfl) rfl (fun gh => rfl) h24 ?_
      refine HJ.gy (fun gh => PR.ldFac rfl At.z (hts.wf k (by omega)) pl2) rfl (fun gh => rfl) h24 ?_
      refine HJ.gcall fn49 rfl (fun gh => rfl) h24 (fun gh => rfl) (fun w X hH => l01In_c  hH) ?_
      refine HJ.gy (fun gh => PR.not rfl) rfl (fun gh => rfl) h24 ?_
      refine HJ.op (fun gh => PR.pickF rfl h24 rfl) ?_
      refine HJ.op (fun gh => PR.move rfl) ?_
      refine HJ.splitB 11 rfl (fun h30 => ?_) (fun h30 => ?_)
      ·
        try have h30p := of_decide_eq_true h30
        refine HJ.gn rfl (fun gh => rfl) h30 ?_
        refine HJ.gn rfl (fun gh => rfl) h30 ?_
        refine HJ.gn rfl (fun gh => rfl) h30 ?_
        refine HJ.gu rfl (fun gh => rfl) ?_
        refine HJ.gu rfl (fun gh => rfl) ?_
        refine HJ.gu rfl (fun gh => rfl) ?_
        refine HJ.gu rfl (fun gh => rfl) ?_
        refine HJ.gu rfl (fun gh => rfl) ?_
        refine HJ.gu rfl (fun gh => rfl) ?_
        refine HJ.gu rfl (fun gh => rfl) ?_
        refine HJ.gu rfl (fun gh => rfl) ?_
        refine HJ.gu rfl (fun gh => rfl) ?_
        refine HJ.close 24 1 foll0 (by kernel_rfl) rfl rfl fun gh => ?_
        refine J.conv (us' := (19, _) :: (20, _) :: (21, _) :: (22, _) :: (23, _) :: (24, _) :: (25, _) :: (26, _) :: (27, _) :: (28, _) :: (29, _) :: (30, _) :: (31, _) :: (32, _) :: (33, _) :: (34, _) :: (35, _) :: (36, _) :: (37, _) :: (38, _) :: (39, _) :: (40, _) :: (41, _) :: (42, _) :: _) (L' := _) rfl rfl ?_
        refine J.gu rfl rfl rfl ?_
        refine J.nil ?_
        refine EJ.still ?_
        refine JS.gu rfl rfl rfl ?_
        refine JS.gn rfl rfl rfl h30 ?_
        refine JS.op (PR.pickT rfl h30 rfl) rfl ?_
        refine JS.nil ?_
        refine EJ.thenN (hK8 ?_)
        refine CJ.condT rfl ?_
        refine CJ.seq fun _ hK10 _ => ?_
        refine CJ.region ?_
        refine J.p (PR.assign rfl) rfl ?_
        refine J.nil ?_
        refine EJ.thenN (hK10 ?_)
        refine CJ.ret ?_
        refine EJ.inR ?_
        refine EJ.thenR ?_
        refine EJ.thenR ?_
        refine EJ.inR ?_
        refine EJ.thenR ?_
        refine EJ.ret1 rfl (Res.tmp rfl) fun w hH => ?_
        replace hH := hH.tail
        replace hH := hH.tail
        exact ⟨rb (isForm_bad (k := k) (by omega) (good_fac (nott h30))).symm, hH⟩
      ·
        try have h30p := of_decide_eq_false h30
        refine HJ.gy (fun gh => PR.move rfl) rfl (fun gh => rfl) h30 ?_
        refine HJ.gy (fun gh => PR.gtr rfl rfl) rfl (fun gh => rfl) h30 ?_
        refine HJ.gy (fun gh => PR.move rfl) rfl (fun gh => rfl) h30 ?_
        refine HJ.splitB 14 rfl (fun h33 => ?_) (fun h33 => ?_)
        ·
          try have h33p := of_decide_eq_true h33
          refine HJ.gy (fun gh => PR.fldA u32 rfl sz30 rfl) rfl (fun gh => rfl) h33 ?_
          refine HJ.gy (fun gh => PR.load rfl (.s .z) rfl pl30) rfl (fun gh => rfl) h33 ?_
          refine HJ.gy (fun gh => PR.move rfl) rfl (fun gh => rfl) h33 ?_
          refine HJ.gy (fun gh => PR.sub rfl rfl (by first | exact nw _ (by omega) | rfl)) rfl (fun gh => rfl) h33 ?_
          refine HJ.gy (fun gh => PR.idx (i' := (k - 1)) u30 sz66 rfl rfl (by omega) (by omega) hts.sm) rfl (fun gh => rfl) h33 ?_
          refine HJ.gy (fun gh => PR.fldP u66 rfl sz64 rfl (hts.sm (i := (k - 1)) (by omega))) rfl (fun gh => rfl) h33 ?_
          refine HJ.gy (fun gh => PR.loadHagg rfl (hts.mono (by omega)) (hts.sm (i := (k - 1)) (by omega)) (by rw [bytesC_length, (hts.wf _ (by omega)).mono.len]; exact ag64)) rfl (fun gh => rfl) h33 ?_
          refine HJ.gy (fun gh => PR.fldA u66 rfl sz64 rfl) rfl (fun gh => rfl) h33 ?_
          refine HJ.gy (fun gh => PR.ldMono rfl At.z (hts.wf k (by omega)) ag64) rfl (fun gh => rfl) h33 ?_
          refine HJ.close 24 1 foll0 (by kernel_rfl) rfl rfl fun gh => ?_
          refine J.conv (us' := (19, _) :: (20, _) :: (21, _) :: (22, _) :: (23, _) :: (24, _) :: (25, _) :: (26, _) :: (27, _) :: (28, _) :: (29, _) :: (30, _) :: (31, _) :: (32, _) :: (33, _) :: (34, _) :: (35, _) :: (36, _) :: (37, _) :: (38, _) :: (39, _) :: (40, _) :: (41, _) :: (42, _) :: _) (L' := _) rfl rfl ?_
          refine J.gcall fn51 rfl rfl h33 rfl rfl fun w hH => (l01Before_c (hts.wf (k - 1) (by omega)).mono (hts.wf k (by omega)).mono hH).mono ?_
          rintro _ w ⟨rfl, hH⟩
          refine ⟨_, rfl, fun a hF => J.of hF hH ?_⟩
          refine J.nil ?_
          refine EJ.still ?_
          refine JS.gy (PR.not rfl) rfl rfl rfl h33 ?_
          refine JS.gy (PR.pickT rfl h33 rfl) rfl rfl rfl h30 ?_
          refine JS.op (PR.pickF rfl h30 rfl) rfl ?_
          refine JS.nil ?_
          refine EJ.thenN (hK8 ?_)
          refine CJ.cond rfl (fun h46 => ?_) (fun h46 => ?_)
          ·
            refine CJ.seq fun _ hK11 _ => ?_
            refine CJ.region ?_
            refine J.p (PR.assign rfl) rfl ?_
            refine J.nil ?_
            refine EJ.thenN (hK11 ?_)
            refine CJ.ret ?_
            refine EJ.inR ?_
            refine EJ.thenR ?_
            refine EJ.thenR ?_
            refine EJ.inR ?_
            refine EJ.thenR ?_
            refine EJ.ret1 rfl (Res.tmp rfl) fun w hH => ?_
            replace hH := hH.tail
            replace hH := hH.tail
            exact ⟨rb (isForm_bad (k := k) (by omega) (good_ord (by omega) (nott h46))).symm, hH⟩
          ·
            refine CJ.skip ?_
            refine EJ.inN ?_
            refine EJ.thenN (hK6 ?_)
            refine CJ.region ?_
            refine J.p (PR.move rfl) rfl ?_
            refine J.p (PR.add rfl rfl (by first | exact nw _ (by omega) | rfl)) rfl ?_
            refine J.p (PR.assign rfl) rfl ?_
            refine J.nil ?_
            refine EJ.thenN ?_
            refine EJ.drop .z ?_
            exact hAg0 (k + 1) ⟨by omega, upto hI.2 (good_yes (notf h24) (notf h30) (.inr (notf h46)))⟩ (by omega) 43 rfl rfl ⟨rfl, trivial⟩ rfl rfl
        ·
          try have h33p := of_decide_eq_false h33
          refine HJ.gn rfl (fun gh => rfl) h33 ?_
          refine HJ.gn rfl (fun gh => rfl) h33 ?_
          refine HJ.gn rfl (fun gh => rfl) h33 ?_
          refine HJ.gn rfl (fun gh => rfl) h33 ?_
          refine HJ.gn rfl (fun gh => rfl) h33 ?_
          refine HJ.gn rfl (fun gh => rfl) h33 ?_
          refine HJ.gn rfl (fun gh => rfl) h33 ?_
          refine HJ.gn rfl (fun gh => rfl) h33 ?_
          refine HJ.gn rfl (fun gh => rfl) h33 ?_
          refine HJ.close 24 1 foll0 (by kernel_rfl) rfl rfl fun gh => ?_
          refine J.conv (us' := (19, _) :: (20, _) :: (21, _) :: (22, _) :: (23, _) :: (24, _) :: (25, _) :: (26, _) :: (27, _) :: (28, _) :: (29, _) :: (30, _) :: (31, _) :: (32, _) :: (33, _) :: (34, _) :: (35, _) :: (36, _) :: (37, _) :: (38, _) :: (39, _) :: (40, _) :: (41, _) :: (42, _) :: _) (L' := _) rfl rfl ?_
          refine J.gn rfl rfl rfl h33 ?_
          refine J.nil ?_
          refine EJ.still ?_
          refine JS.gn rfl rfl rfl h33 ?_
          refine JS.gy (PR.pickF rfl h33 rfl) rfl rfl rfl h30 ?_
          refine JS.op (PR.pickF rfl h30 rfl) rfl ?_
          refine JS.nil ?_
          refine EJ.thenN (hK8 ?_)
          refine CJ.condF rfl ?_
          refine CJ.skip ?_
          refine EJ.inN ?_
          refine EJ.thenN (hK6 ?_)
          refine CJ.region ?_
          refine J.p (PR.move rfl) rfl ?_
          refine J.p (PR.add rfl rfl (by first | exact nw _ (by omega) | rfl)) rfl ?_
          refine J.p (PR.assign rfl) rfl ?_
          refine J.nil ?_
          refine EJ.thenN ?_
          refine EJ.drop .z ?_
          exact hAg0 (k + 1) ⟨by omega, upto hI.2 (good_yes (notf h24) (notf h30) (.inl (by omega)))⟩ (by omega) 43 rfl rfl ⟨rfl, trivial⟩ rfl rfl
  ·
    refine CJ.exit ?_
    refine EJ.thenE ?_
    refine EJ.thenE ?_
    refine EJ.inE ?_
    refine EJ.thenN (hK2 ?_)
    refine CJ.seq fun _ hK12 _ => ?_
    refine CJ.region ?_
    refine J.p (PR.fldA u32 rfl sz30 rfl) rfl ?_
    refine J.p (PR.load rfl At.z rfl pl30) rfl ?_
    refine J.p (PR.lenSlice u30 rfl rfl) rfl ?_
    refine J.p (PR.leq rfl rfl) rfl ?_
    refine J.p (PR.assign rfl) rfl ?_
    refine J.nil ?_
    refine EJ.thenN (hK12 ?_)
    refine CJ.ret ?_
    refine EJ.ret1 rfl (Res.tmp rfl) fun w hH => ?_
    replace hH := hH.tail
    exact ⟨rb (isForm_good (fun j hj => hI.2 j (by omega))).symm, hH⟩
set_option maxRecDepth 10000 in
theorem IsForm_c {B : World} {H0 H : HP} {L : List SA} {w : World} {qds : Option Addr} {cds : Nat} {ds : List Int} {qts : Option Addr} {cts : Nat} {ts : List Term}  (hds : Ints H qds ds) (hts : Terms H qts ts) (hn : ds.length ≤ 1048576) (hl : ts.length ≤ 9223372036854775807) (hH : Hp B H0 H L w) :
    Calls Tryd.prog 21 [.slice qds ds.length cds, .agg [.slice qts ts.length cts].toArray].toArray w fun e w' => e = .returned (.bool (isDeg ds && isForm ds ts)) ∧ Hp B H0 H L w' := by
  refine CJ.enter Tryd.func21 rfl 12 rfl rfl [(0, .slice qds ds.length cds), (1, .agg [.slice qts ts.length cts].toArray)] rfl hH ?_
  clear hH
  refine CJ.seq fun _ hK1 _ => ?_
  refine CJ.region ?_
  refine J.box rfl rfl rfl fun g3 => ?_
  refine J.p (PR.assign rfl) rfl ?_
  refine J.nil ?_
  refine EJ.thenN (hK1 ?_)
  refine CJ.seq fun _ hK2 _ => ?_
  refine CJ.region ?_
  refine J.p (PR.move rfl) rfl ?_
  refine J.call fn37 rfl rfl fun w hH => (AreDegrees_c hds (by omega) hH).mono ?_
  rintro _ w ⟨rfl, hH⟩
  refine ⟨_, rfl, fun a hF => J.of hF hH ?_⟩
  refine J.p (PR.move rfl) rfl ?_
  refine J.splitB (jd := 7) rfl (fun h7 => ?_) (fun h7 => ?_)
  ·
    try have h7p := of_decide_eq_true h7
    refine J.gy (PR.move rfl) rfl rfl rfl h7 ?_
    refine J.gy (PR.loadAll rfl At.z (by simpa [*] using ag32)) rfl rfl rfl h7 ?_
    refine J.gcall fn38 rfl rfl h7 rfl rfl fun w hH => (isForm_c hds hts (by omega) (by omega) hH).mono ?_
    rintro _ w ⟨rfl, hH⟩
    refine ⟨_, rfl, fun a hF => J.of hF hH ?_⟩
    refine J.p (PR.pickT rfl h7 rfl) rfl ?_
    refine J.p (PR.assign rfl) rfl ?_
    refine J.nil ?_
    refine EJ.thenN (hK2 ?_)
    refine CJ.ret ?_
    refine EJ.ret1 rfl (Res.tmp rfl) fun w hH => ?_
    replace hH := hH.tail
    exact ⟨rb (by rw [h7]; rfl), hH⟩
  ·
    try have h7p := of_decide_eq_false h7
    refine J.gn rfl rfl rfl h7 ?_
    refine J.gn rfl rfl rfl h7 ?_
    refine J.gn rfl rfl rfl h7 ?_
    refine J.p (PR.pickF rfl h7 rfl) rfl ?_
    refine J.p (PR.assign rfl) rfl ?_
    refine J.nil ?_
    refine EJ.thenN (hK2 ?_)
    refine CJ.ret ?_
    refine EJ.ret1 rfl (Res.tmp rfl) fun w hH => ?_
    replace hH := hH.tail
    exact ⟨rb (by rw [h7]; rfl), hH⟩
set_option maxRecDepth 10000 in
theorem sIsForm_c {B : World} {H0 H : HP} {L : List SA} {w : World} {qds : Option Addr} {cds : Nat} {ds : List Int} {qts : Option Addr} {cts : Nat} {ts : List Term}  (hds : Ints H qds ds) (hts : Terms H qts ts) (hn : ds.length ≤ 1048576) (hl : ts.length ≤ 9223372036854775807) (hH : Hp B H0 H L w) :
    Calls Tryd.prog 18 [.slice qds ds.length cds, .agg [.slice qts ts.length cts].toArray].toArray w fun e w' => e = .returned (.bool (isDeg ds && isForm ds ts)) ∧ Hp B H0 H L w' := by
  refine CJ.enter Tryd.func18 rfl 12 rfl rfl [(0, .slice qds ds.length cds), (1, .agg [.slice qts ts.length cts].toArray)] rfl hH ?_
  clear hH
  refine CJ.seq fun _ hK1 _ => ?_
  refine CJ.region ?_
  refine J.box rfl rfl rfl fun g3 => ?_
  refine J.p (PR.assign rfl) rfl ?_
  refine J.nil ?_
  refine EJ.thenN (hK1 ?_)
  refine CJ.seq fun _ hK2 _ => ?_
  refine CJ.region ?_
  refine J.p (PR.move rfl) rfl ?_
  refine J.call fn32 rfl rfl fun w hH => (l01Degrees_c hds (by omega) hH).mono ?_
  rintro _ w ⟨rfl, hH⟩
  refine ⟨_, rfl, fun a hF => J.of hF hH ?_⟩
  refine J.p (PR.move rfl) rfl ?_
  refine J.splitB (jd := 7) rfl (fun h7 => ?_) (fun h7 => ?_)
  ·
    try have h7p := of_decide_eq_true h7
    refine J.gy (PR.move rfl) rfl rfl rfl h7 ?_
    refine J.gy (PR.loadAll rfl At.z (by simpa [*] using ag32)) rfl rfl rfl h7 ?_
    refine J.gcall fn33 rfl rfl h7 rfl rfl fun w hH => (l01Is_c hds hts (by omega) (isDeg_pos h7) (by omega) hH).mono ?_
    rintro _ w ⟨rfl, hH⟩
    refine ⟨_, rfl, fun a hF => J.of hF hH ?_⟩
    refine J.p (PR.pickT rfl h7 rfl) rfl ?_
    refine J.p (PR.assign rfl) rfl ?_
    refine J.nil ?_
    refine EJ.thenN (hK2 ?_)
    refine CJ.ret ?_
    refine EJ.ret1 rfl (Res.tmp rfl) fun w hH => ?_
    replace hH := hH.tail
    exact ⟨rb (by rw [h7]; rfl), hH⟩
  ·
    try have h7p := of_decide_eq_false h7
    refine J.gn rfl rfl rfl h7 ?_
    refine J.gn rfl rfl rfl h7 ?_
    refine J.gn rfl rfl rfl h7 ?_
    refine J.p (PR.pickF rfl h7 rfl) rfl ?_
    refine J.p (PR.assign rfl) rfl ?_
    refine J.nil ?_
    refine EJ.thenN (hK2 ?_)
    refine CJ.ret ?_
    refine EJ.ret1 rfl (Res.tmp rfl) fun w hH => ?_
    replace hH := hH.tail
    exact ⟨rb (by rw [h7]; rfl), hH⟩
end Go.Proofs.YtbjhllmcnfncdaaDoor.G
