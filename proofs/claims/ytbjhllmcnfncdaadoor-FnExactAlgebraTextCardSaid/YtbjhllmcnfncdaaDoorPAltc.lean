/- A part of the walk of one law: what the functions compute. No condition. -/
import Derived.Test.YtbjhllmcnfncdaaDoorRows
import Derived.Test.YtbjhllmcnfncdaaDoorProg
import Derived.WalkKit
import Derived.KernelRfl
import Derived.JoinedOf
import Derived.Maps.AppendAt
import Derived.Still
import Derived.ProofKit
import Derived.OpenShut
import Derived.StillTail
import Derived.Deep.Upon
import Derived.WalkSpells
import Derived.Maps.Range
import Derived.Laws.Concat
import Derived.Laws.IdiomStrings
import Derived.Laws.Strings
import Derived.Lib.ItoaNum
import Derived.Lib.Join
import Derived.Lib.LaidTab
import Derived.DeepKeys4
import Derived.Shelf.Strings.Builder1
import Derived.Shelf.Strings.Builder2
import Derived.Shelf.Strings.OnBuilder
import Derived.Shelf.Strings.BuilderF
import Derived.Shelf.Strings.BuilderK
import Derived.Shelf.Strconv.Itoa0
import Derived.Shelf.Strconv.Itoa1
import Derived.Shelf.LaysM
import Derived.Shelf.Strconv.Itoa2
import Derived.Shelf.Strconv.Itoa3
import Derived.Shelf.Strconv.Itoa4
import Derived.Lib.AppendIntMem
import Derived.Test.YtbjhllmcnfncdaaDoorCards
import Derived.Test.YtbjhllmcnfncdaaDoorTie
import Derived.LaidMore
import Derived.Stop.Joined
import Derived.Stop.LaidErr
import Derived.SevenTiedAt
import Derived.MakeChecks
import Derived.ChangeOld
import Derived.Below
import Derived.SizedLaws
import Derived.Test.YtbjhllmcnfncdaaDoorPAltb
set_option linter.unusedVariables false
set_option linter.unusedSimpArgs false
namespace Go.Proofs.YtbjhllmcnfncdaaDoor.G
open Go Go.RowKit
namespace We
theorem u2 : Tryd.prog.underlying 2 = some (TypeDesc.int .i64) := by kernel_rfl
theorem u30 : Tryd.prog.underlying 30 = some (TypeDesc.slice 66) := by kernel_rfl
theorem u32 : Tryd.prog.underlying 32 = some (TypeDesc.struct #[{ name := "Terms", type := 30, offset := 0, embedded := false, tag := "", pkgPath := "", byteOffset := 0 }]) := by kernel_rfl
theorem u64 : Tryd.prog.underlying 64 = some (TypeDesc.array 8 5) := by kernel_rfl
theorem u66 : Tryd.prog.underlying 66 = some (TypeDesc.struct #[{ name := "Monomial", type := 64, offset := 0, embedded := false, tag := "", pkgPath := "", byteOffset := 0 }, { name := "Factor", type := 2, offset := 8, embedded := false, tag := "", pkgPath := "", byteOffset := 8 }]) := by kernel_rfl
theorem sz2 : Size Tryd.prog 2 1 := by unfold Size; kernel_rfl
theorem sz30 : Size Tryd.prog 30 1 := by unfold Size; kernel_rfl
theorem sz64 : Size Tryd.prog 64 8 := by unfold Size; kernel_rfl
theorem sz66 : Size Tryd.prog 66 9 := by unfold Size; kernel_rfl
theorem ze66 : Zero Tryd.prog 66 [.int .u8 0, .int .u8 0, .int .u8 0, .int .u8 0, .int .u8 0, .int .u8 0, .int .u8 0, .int .u8 0, .int .i64 0] := by unfold Zero; kernel_rfl
theorem pl2 : Plain Tryd.prog 2 := ⟨_, u2, rfl⟩
theorem pl30 : Plain Tryd.prog 30 := ⟨_, u30, rfl⟩
theorem ag32 : Agg Tryd.prog 32 1 := ⟨_, u32, rfl, by kernel_rfl⟩
theorem ag64 : Agg Tryd.prog 64 8 := ⟨_, u64, rfl, by kernel_rfl⟩
theorem ag66 : Agg Tryd.prog 66 9 := ⟨_, u66, rfl, by kernel_rfl⟩
theorem fn32 : Fn Tryd.prog 32 := ⟨_, Tryd.func32, by kernel_rfl, rfl⟩
theorem fn33 : Fn Tryd.prog 33 := ⟨_, Tryd.func33, by kernel_rfl, rfl⟩
theorem fn37 : Fn Tryd.prog 37 := ⟨_, Tryd.func37, by kernel_rfl, rfl⟩
theorem fn38 : Fn Tryd.prog 38 := ⟨_, Tryd.func38, by kernel_rfl, rfl⟩
theorem fn49 : Fn Tryd.prog 49 := ⟨_, Tryd.func49, by kernel_rfl, rfl⟩
theorem fn50 : Fn Tryd.prog 50 := ⟨_, Tryd.func50, by kernel_rfl, rfl⟩
theorem fn51 : Fn Tryd.prog 51 := ⟨_, Tryd.func51, by kernel_rfl, rfl⟩
theorem fn56 : Fn Tryd.prog 56 := ⟨_, Tryd.func56, by kernel_rfl, rfl⟩
theorem fn57 : Fn Tryd.prog 57 := ⟨_, Tryd.func57, by kernel_rfl, rfl⟩
theorem fn58 : Fn Tryd.prog 58 := ⟨_, Tryd.func58, by kernel_rfl, rfl⟩
theorem fn59 : Fn Tryd.prog 59 := ⟨_, Tryd.func59, by kernel_rfl, rfl⟩
theorem foll0 : Tryd.prog.follows .mixedOrders = true := by kernel_rfl
end We
open We
theorem good_mono {ds : List Int} {ts : List Term} {i : Nat} (h : isMono ds (tm ts i).mono = false) : goodAt ds ts i = false := by unfold goodAt; rw [h]; rfl
theorem good_fac {ds : List Int} {ts : List Term} {i : Nat} (h : (decide (1 ≤ (tm ts i).fac) && decide ((tm ts i).fac ≤ 10006)) = false) : goodAt ds ts i = false := by unfold goodAt; rw [h, Bool.and_false]; rfl
theorem good_ord {ds : List Int} {ts : List Term} {i : Nat} (h0 : 0 < i) (h : before (tm ts (i - 1)).mono (tm ts i).mono = false) : goodAt ds ts i = false := by unfold goodAt; rw [h, show decide (i = 0) = false from decide_eq_false (by omega)]; simp
theorem good_yes {ds : List Int} {ts : List Term} {i : Nat} (h1 : isMono ds (tm ts i).mono = true) (h2 : (decide (1 ≤ (tm ts i).fac) && decide ((tm ts i).fac ≤ 10006)) = true) (h3 : i = 0 ∨ before (tm ts (i - 1)).mono (tm ts i).mono = true) : goodAt ds ts i = true := by
  unfold goodAt
  rw [h1, h2]
  rcases h3 with h3 | h3
  · rw [decide_eq_true h3]; rfl
  · rw [h3]; simp
theorem before_le {p q : List Int} (h : cmp p q ≥ 0) : before p q = false := decide_eq_false (by omega)
theorem before_lt {p q : List Int} (h : ¬ cmp p q ≥ 0) : before p q = true := decide_eq_true (by omega)
set_option maxHeartbeats 4000000 in
set_option maxRecDepth 10000 in
theorem isForm_c {B : World} {H0 H : HP} {L : List SA} {w : World} {qds : Option Addr} {cds : Nat} {ds : List Int} {qts : Option Addr} {cts : Nat} {ts : List Term}  (hds : Ints H qds ds) (hts : Terms H qts ts) (hn : ds.length ≤ 1048576) (hl : ts.length ≤ 9223372036854775807) (hH : Hp B H0 H L w) :
    Calls Tryd.prog 38 [.slice qds ds.length cds, .agg [.slice qts ts.length cts].toArray].toArray w fun e w' => e = .returned (.bool (isForm ds ts)) ∧ Hp B H0 H L w' := by
  refine CJ.enter Tryd.func38 rfl 48 rfl rfl [(0, .slice qds ds.length cds), (1, .agg [.slice qts ts.length cts].toArray)] rfl hH ?_
  clear hH
  refine CJ.seq fun _ hK1 _ => ?_
  refine CJ.region ?_
  refine J.box rfl rfl rfl fun g3 => ?_
  refine J.p (PR.assign rfl) rfl ?_
  refine J.nil ?_
  refine EJ.thenN (hK1 ?_)
  refine CJ.seq fun _ hK2 _ => ?_
  refine CJ.seq fun _ hK3 _ => ?_
  refine CJ.region ?_
  refine J.p (PR.fldA u32 rfl sz30 rfl) rfl ?_
  refine J.p (PR.load rfl At.z rfl pl30) rfl ?_
  refine J.p (PR.lenSlice u30 rfl rfl) rfl ?_
  refine J.p (PR.gtr rfl rfl) rfl ?_
  refine J.nil ?_
  refine EJ.thenN (hK3 ?_)
  refine CJ.condD rfl (fun h10 => ?_) (fun h10 => ?_)
  ·
    refine CJ.seq fun _ hK4 _ => ?_
    refine CJ.region ?_
    refine J.p (PR.assign rfl) rfl ?_
    refine J.nil ?_
    refine EJ.thenN (hK4 ?_)
    refine CJ.ret ?_
    refine EJ.thenR ?_
    refine EJ.ret1 rfl (Res.tmp rfl) fun w hH => ?_
    replace hH := hH.tail
    exact ⟨rb (isForm_long (by omega)).symm, hH⟩
  ·
    refine CJ.skip ?_
    refine EJ.thenN (hK2 ?_)
    refine CJ.seq fun _ hK5 _ => ?_
    refine CJ.seq fun _ hK6 _ => ?_
    refine CJ.region ?_
    refine J.p (PR.fldA u32 rfl sz30 rfl) rfl ?_
    refine J.p (PR.load rfl At.z rfl pl30) rfl ?_
    refine J.p (PR.lenSlice u30 rfl rfl) rfl ?_
    refine J.p (PR.move rfl) rfl ?_
    refine J.nil ?_
    refine EJ.thenN (hK6 ?_)
    refine CJ.block ?_
    refine CJ.loopU (σ := Nat) (fun (k : Nat) => [(14, .int .i64 (k : Int))]) (fun (k : Nat) => H) (fun (k : Nat) => obj g3 (.cells [.slice qts ts.length cts].toArray 32 (0, 0)) :: L) (fun (k : Nat) => k ≤ ts.length ∧ ∀ j, j < k → goodAt ds ts j = true) (fun (k : Nat) => ts.length - k) 0 ⟨by omega, fun j hj => by omega⟩ ⟨rfl, trivial⟩ rfl rfl ?_
    rintro k hI _ hAg0
    have hk := hI.1
    refine CJ.seq fun _ hK7 _ => ?_
    refine CJ.region ?_
    refine J.p (PR.lss rfl rfl) rfl ?_
    refine J.nil ?_
    refine EJ.thenN (hK7 ?_)
    refine CJ.seq fun _ hK8 _ => ?_
    refine CJ.condD rfl (fun hc15 => ?_) (fun hc15 => ?_)
    ·
      refine CJ.skip ?_
      refine EJ.thenN (hK8 ?_)
      refine CJ.seq fun _ hK9 _ => ?_
      refine CJ.block ?_
      refine CJ.seq fun _ hK10 _ => ?_
      refine CJ.region ?_
      refine J.p (PR.move rfl) rfl ?_
      refine J.p (PR.idx u30 sz66 rfl rfl rfl (by omega) hts.sm) rfl ?_
      refine J.p (PR.loadHagg rfl (hts.cell _ (by omega)) (hts.sm (i := k) (by omega)) (by rw [Term.c_length (hts.wf _ (by omega))]; exact ag66)) rfl ?_
      refine J.alloc (cs := (default : Term).c) ze66 rfl fun g6 => ?_
      refine J.p (PR.assign rfl) rfl ?_
      refine J.stTerm rfl rfl sz66 zero_wf (hts.wf k (by omega)) At.z ?_
      refine J.nil ?_
      refine EJ.thenN (hK10 ?_)
      refine CJ.seq fun _ hK11 _ => ?_
      refine CJ.seq fun _ hK12 _ => ?_
      refine CJ.region ?_
      refine J.p (PR.move rfl) rfl ?_
      refine J.p (PR.fldA u66 rfl sz64 rfl) rfl ?_
      refine J.p (PR.ldMono rfl At.z (hts.wf k (by omega)) ag64) rfl ?_
      refine J.call fn56 rfl rfl fun w hH => (isMonomial_c hds (hts.wf k (by omega)).mono (by omega) hH).mono ?_
      rintro _ w ⟨rfl, hH⟩
      refine ⟨_, rfl, fun a hF => J.of hF hH ?_⟩
      refine J.p (PR.not rfl) rfl ?_
      refine J.p (PR.move rfl) rfl ?_
      refine J.splitB (jd := 24) rfl (fun h24 => ?_) (fun h24 => ?_)
      ·
        try have h24p := of_decide_eq_true h24
        refine J.gn rfl rfl rfl h24 ?_
        refine J.gn rfl rfl rfl h24 ?_
        refine J.gn rfl rfl rfl h24 ?_
        refine J.gn rfl rfl rfl h24 ?_
        refine J.p (PR.pickT rfl h24 rfl) rfl ?_
        refine J.nil ?_
        refine EJ.thenN (hK12 ?_)
        refine CJ.condT rfl ?_
        refine CJ.seq fun _ hK13 _ => ?_
        refine CJ.region ?_
        refine J.p (PR.assign rfl) rfl ?_
        refine J.nil ?_
        refine EJ.thenN (hK13 ?_)
        refine CJ.ret ?_
        refine EJ.thenR ?_
        refine EJ.inR ?_
        refine EJ.thenR ?_
        refine EJ.thenR ?_
        refine EJ.inR ?_
        refine EJ.thenR ?_
        refine EJ.ret1 rfl (Res.tmp rfl) fun w hH => ?_
        replace hH := hH.tail
        replace hH := hH.tail
        exact ⟨rb (isForm_bad (k := k) (by omega) (good_mono (nott h24))).symm, hH⟩
      ·
        try have h24p := of_decide_eq_false h24
        refine J.gy (PR.fldA u66 rfl sz2 rfl) rfl rfl rfl h24 ?_
        refine J.gy (PR.ldFac rfl At.z (hts.wf k (by omega)) pl2) rfl rfl rfl h24 ?_
        refine J.gcall fn57 rfl rfl h24 rfl rfl fun w hH => (isFactor_c  hH).mono ?_
        rintro _ w ⟨rfl, hH⟩
        refine ⟨_, rfl, fun a hF => J.of hF hH ?_⟩
        refine J.gy (PR.not rfl) rfl rfl rfl h24 ?_
        refine J.p (PR.pickF rfl h24 rfl) rfl ?_
        refine J.nil ?_
        refine EJ.thenN (hK12 ?_)
        refine CJ.cond rfl (fun h29 => ?_) (fun h29 => ?_)
        ·
          refine CJ.seq fun _ hK14 _ => ?_
          refine CJ.region ?_
          refine J.p (PR.assign rfl) rfl ?_
          refine J.nil ?_
          refine EJ.thenN (hK14 ?_)
          refine CJ.ret ?_
          refine EJ.thenR ?_
          refine EJ.inR ?_
          refine EJ.thenR ?_
          refine EJ.thenR ?_
          refine EJ.inR ?_
          refine EJ.thenR ?_
          refine EJ.ret1 rfl (Res.tmp rfl) fun w hH => ?_
          replace hH := hH.tail
          replace hH := hH.tail
          exact ⟨rb (isForm_bad (k := k) (by omega) (good_fac (nott h29))).symm, hH⟩
        ·
          refine CJ.skip ?_
          refine EJ.thenN (hK11 ?_)
          refine CJ.seq fun _ hK15 _ => ?_
          refine CJ.head [[], [0], [1], [2], [3, 2], [2], [5, 2], [4, 6, 2], [7, 2], [8, 2], [9, 2], [2], [11, 2]] (by kernel_rfl) ?_
          refine HJ.op (fun gh => PR.move rfl) ?_
          refine HJ.op (fun gh => PR.gtr rfl rfl) ?_
          refine HJ.op (fun gh => PR.move rfl) ?_
          refine HJ.splitB 2 rfl (fun h32 => ?_) (fun h32 => ?_)
          ·
            try have h32p := of_decide_eq_true h32
            refine HJ.gy (fun gh => PR.fldA u32 rfl sz30 rfl) rfl (fun gh => rfl) h32 ?_
            refine HJ.gy (fun gh => PR.load rfl (.s .z) rfl pl30) rfl (fun gh => rfl) h32 ?_
            refine HJ.gy (fun gh => PR.move rfl) rfl (fun gh => rfl) h32 ?_
            refine HJ.gy (fun gh => PR.sub rfl rfl (by first | exact nw _ (by omega) | rfl)) rfl (fun gh => rfl) h32 ?_
            refine HJ.gy (fun gh => PR.idx (i' := (k - 1)) u30 sz66 rfl rfl (by omega) (by omega) hts.sm) rfl (fun gh => rfl) h32 ?_
            refine HJ.gy (fun gh => PR.fldP u66 rfl sz64 rfl (hts.sm (i := (k - 1)) (by omega))) rfl (fun gh => rfl) h32 ?_
            refine HJ.gy (fun gh => PR.loadHagg rfl (hts.mono (by omega)) (hts.sm (i := (k - 1)) (by omega)) (by rw [bytesC_length, (hts.wf _ (by omega)).mono.len]; exact ag64)) rfl (fun gh => rfl) h32 ?_
            refine HJ.gcall fn58 rfl (fun gh => rfl) h32 (fun gh => rfl) (fun w X hH => powerOf_c (hts.wf (k - 1) (by omega)).mono hH) ?_
            refine HJ.gy (fun gh => PR.fldA u66 rfl sz64 rfl) rfl (fun gh => rfl) h32 ?_
            refine HJ.gy (fun gh => PR.ldMono rfl At.z (hts.wf k (by omega)) ag64) rfl (fun gh => rfl) h32 ?_
            refine HJ.close 13 2 foll0 (by kernel_rfl) rfl rfl fun gh => ?_
            refine J.conv (us' := (30, _) :: (31, _) :: (32, _) :: (33, _) :: (34, _) :: (35, _) :: (36, _) :: (37, _) :: (38, _) :: (39, _) :: (40, _) :: (41, _) :: (42, _) :: _) (L' := _) rfl rfl ?_
            refine J.gcall fn58 rfl rfl h32 rfl rfl fun w hH => (powerOf_c (hts.wf k (by omega)).mono hH).mono ?_
            rintro _ w ⟨rfl, hH⟩
            refine ⟨_, rfl, fun a hF => J.of hF hH ?_⟩
            refine J.gcall fn59 rfl rfl h32 rfl rfl fun w hH => (compare_c (hts.wf (k - 1) (by omega)).mono.len (hts.wf k (by omega)).mono.len (hts.wf _ (by omega)).mono.small (hts.wf _ (by omega)).mono.small hH).mono ?_
            rintro _ w ⟨rfl, hH⟩
            refine ⟨_, rfl, fun a hF => J.of hF hH ?_⟩
            refine J.nil ?_
            refine EJ.still ?_
            refine JS.gy (PR.geq rfl rfl) rfl rfl rfl h32 ?_
            refine JS.op (PR.pickT rfl h32 rfl) rfl ?_
            refine JS.nil ?_
            refine EJ.thenN (hK15 ?_)
            refine CJ.condD rfl (fun h46 => ?_) (fun h46 => ?_)
            ·
              refine CJ.seq fun _ hK16 _ => ?_
              refine CJ.region ?_
              refine J.p (PR.assign rfl) rfl ?_
              refine J.nil ?_
              refine EJ.thenN (hK16 ?_)
              refine CJ.ret ?_
              refine EJ.inR ?_
              refine EJ.thenR ?_
              refine EJ.thenR ?_
              refine EJ.inR ?_
              refine EJ.thenR ?_
              refine EJ.ret1 rfl (Res.tmp rfl) fun w hH => ?_
              replace hH := hH.tail
              replace hH := hH.tail
              exact ⟨rb (isForm_bad (k := k) (by omega) (good_ord (by omega) (before_le h46))).symm, hH⟩
            ·
              refine CJ.skip ?_
              refine EJ.inN ?_
              refine EJ.thenN (hK9 ?_)
              refine CJ.region ?_
              refine J.p (PR.add rfl rfl (by first | exact nw _ (by omega) | rfl)) rfl ?_
              refine J.p (PR.move rfl) rfl ?_
              refine J.nil ?_
              refine EJ.thenN ?_
              refine EJ.drop .z ?_
              exact hAg0 (k + 1) ⟨by omega, upto hI.2 (good_yes (notf h24) (notf h29) (.inr (before_lt h46)))⟩ (by omega) 37 rfl rfl ⟨rfl, trivial⟩ rfl rfl
          ·
            try have h32p := of_decide_eq_false h32
            refine HJ.gn rfl (fun gh => rfl) h32 ?_
            refine HJ.gn rfl (fun gh => rfl) h32 ?_
            refine HJ.gn rfl (fun gh => rfl) h32 ?_
            refine HJ.gn rfl (fun gh => rfl) h32 ?_
            refine HJ.gn rfl (fun gh => rfl) h32 ?_
            refine HJ.gn rfl (fun gh => rfl) h32 ?_
            refine HJ.gn rfl (fun gh => rfl) h32 ?_
            refine HJ.gn rfl (fun gh => rfl) h32 ?_
            refine HJ.gn rfl (fun gh => rfl) h32 ?_
            refine HJ.gn rfl (fun gh => rfl) h32 ?_
            refine HJ.close 13 2 foll0 (by kernel_rfl) rfl rfl fun gh => ?_
            refine J.conv (us' := (30, _) :: (31, _) :: (32, _) :: (33, _) :: (34, _) :: (35, _) :: (36, _) :: (37, _) :: (38, _) :: (39, _) :: (40, _) :: (41, _) :: (42, _) :: _) (L' := _) rfl rfl ?_
            refine J.gn rfl rfl rfl h32 ?_
            refine J.gn rfl rfl rfl h32 ?_
            refine J.nil ?_
            refine EJ.still ?_
            refine JS.gn rfl rfl rfl h32 ?_
            refine JS.op (PR.pickF rfl h32 rfl) rfl ?_
            refine JS.nil ?_
            refine EJ.thenN (hK15 ?_)
            refine CJ.condF rfl ?_
            refine CJ.skip ?_
            refine EJ.inN ?_
            refine EJ.thenN (hK9 ?_)
            refine CJ.region ?_
            refine J.p (PR.add rfl rfl (by first | exact nw _ (by omega) | rfl)) rfl ?_
            refine J.p (PR.move rfl) rfl ?_
            refine J.nil ?_
            refine EJ.thenN ?_
            refine EJ.drop .z ?_
            exact hAg0 (k + 1) ⟨by omega, upto hI.2 (good_yes (notf h24) (notf h29) (.inl (by omega)))⟩ (by omega) 37 rfl rfl ⟨rfl, trivial⟩ rfl rfl
    ·
      refine CJ.exit ?_
      refine EJ.thenE ?_
      refine EJ.thenE ?_
      refine EJ.inE ?_
      refine EJ.thenN (hK5 ?_)
      refine CJ.seq fun _ hK17 _ => ?_
      refine CJ.region ?_
      refine J.p (PR.assign rfl) rfl ?_
      refine J.nil ?_
      refine EJ.thenN (hK17 ?_)
      refine CJ.ret ?_
      refine EJ.ret1 rfl (Res.tmp rfl) fun w hH => ?_
      replace hH := hH.tail
      exact ⟨rb ((isForm_good (fun j hj => hI.2 j (by omega))).trans (decide_eq_true (by omega))).symm, hH⟩
set_option maxHeartbeats 4000000 in
set_option maxRecDepth 10000 in
theorem l01Is_c {B : World} {H0 H : HP} {L : List SA} {w : World} {qds : Option Addr} {cds : Nat} {ds : List Int} {qts : Option Addr} {cts : Nat} {ts : List Term}  (hds : Ints H qds ds) (hts : Terms H qts ts) (hn : ds.length ≤ 1048576) (hp : ∀ j, j < ds.length → 0 ≤ ds.getD j 0) (hl : ts.length ≤ 9223372036854775807) (hH : Hp B H0 H L w) :
    Calls Tryd.prog 33 [.slice qds ds.length cds, .agg [.slice qts ts.length cts].toArray].toArray w fun e w' => e = .returned (.bool (isForm ds ts)) ∧ Hp B H0 H L w' := by
  refine CJ.enter Tryd.func33 rfl 51 rfl rfl [(0, .slice qds ds.length cds), (1, .agg [.slice qts ts.length cts].toArray)] rfl hH ?_
  clear hH
  refine CJ.seq fun _ hK1 _ => ?_
  refine CJ.region ?_
  refine J.box rfl rfl rfl fun g3 => ?_
  refine J.p (PR.assign rfl) rfl ?_
  refine J.nil ?_
  refine EJ.thenN (hK1 ?_)
  refine CJ.seq fun _ hK2 _ => ?_
  refine CJ.seq fun _ hK3 _ => ?_
  refine CJ.region ?_
  refine J.p (PR.assign rfl) rfl ?_
  refine J.nil ?_
  refine EJ.thenN (hK3 ?_)
  refine CJ.block ?_
  refine CJ.loopU (σ := Nat) (fun (k : Nat) => [(5, .int .i64 (k : Int))]) (fun (k : Nat) => H) (fun (k : Nat) => obj g3 (.cells [.slice qts ts.length cts].toArray 32 (0, 0)) :: L) (fun (k : Nat) => k ≤ ts.length ∧ ∀ j, j < k → goodAt ds ts j = true) (fun (k : Nat) => ts.length - k) 0 ⟨by omega, fun j hj => by omega⟩ ⟨rfl, trivial⟩ rfl rfl ?_
  rintro k hI _ hAg0
  have hk := hI.1
  refine CJ.seq fun _ hK4 _ => ?_
  refine CJ.seq fun _ hK5 _ => ?_
  refine CJ.region ?_
  refine J.p (PR.move rfl) rfl ?_
  refine J.p (PR.fldA u32 rfl sz30 rfl) rfl ?_
  refine J.p (PR.load rfl At.z rfl pl30) rfl ?_
  refine J.p (PR.lenSlice u30 rfl rfl) rfl ?_
  refine J.p (PR.lss rfl rfl) rfl ?_
  refine J.nil ?_
  refine EJ.thenN (hK5 ?_)
  refine CJ.condD rfl (fun hc11 => ?_) (fun hc11 => ?_)
  ·
    refine CJ.skip ?_
    refine EJ.thenN (hK4 ?_)
    refine CJ.seq fun _ hK6 _ => ?_
    refine CJ.block ?_
    refine CJ.seq fun _ hK7 _ => ?_
    refine CJ.region ?_
    refine J.p (PR.fldA u32 rfl sz30 rfl) rfl ?_
    refine J.p (PR.load rfl At.z rfl pl30) rfl ?_
    refine J.p (PR.move rfl) rfl ?_
    refine J.p (PR.idx u30 sz66 rfl rfl rfl (by omega) hts.sm) rfl ?_
    refine J.p (PR.loadHagg rfl (hts.cell _ (by omega)) (hts.sm (i := k) (by omega)) (by rw [Term.c_length (hts.wf _ (by omega))]; exact ag66)) rfl ?_
    refine J.alloc (cs := (default : Term).c) ze66 rfl fun g6 => ?_
    refine J.stTerm rfl rfl sz66 zero_wf (hts.wf k (by omega)) At.z ?_
    refine J.nil ?_
    refine EJ.thenN (hK7 ?_)
    refine CJ.seq fun _ hK8 _ => ?_
    refine CJ.head [[], [], [1], [0, 2], [3], [4], [5], [6, 5], [7, 5], [8, 5], [5, 9], [10], [11], [12, 11], [13, 11], [14], [15, 14], [14], [17, 14], [16, 18, 14], [19, 14], [20, 14], [14], [22, 14]] (by kernel_rfl) ?_
    refine HJ.op (fun gh => PR.move rfl) ?_
    refine HJ.op (fun gh => PR.fldA u66 rfl sz64 rfl) ?_
    refine HJ.op (fun gh => PR.ldMono rfl At.z (hts.wf k (by omega)) ag64) ?_
    refine HJ.call fn50 (fun gh => rfl) (fun w X hH => l01Mono_c hds (hts.wf k (by omega)).mono (by omega) hp hH) ?_
    refine HJ.op (fun gh => PR.not rfl) ?_
    refine HJ.op (fun gh => PR.move rfl) ?_
    refine HJ.splitB 5 rfl (fun h24 => ?_) (fun h24 => ?_)
    ·
      try have h24p := of_decide_eq_true h24
      refine HJ.gn rfl (fun gh => rfl) h24 ?_
      refine HJ.gn rfl (fun gh => rfl) h24 ?_
      refine HJ.gn rfl (fun gh => rfl) h24 ?_
      refine HJ.gn rfl (fun gh => rfl) h24 ?_
      refine HJ.op (fun gh => PR.pickT rfl h24 rfl) ?_
      refine HJ.op (fun gh => PR.move rfl) ?_
      refine HJ.gn rfl (fun gh => rfl) rfl ?_
      refine HJ.gn rfl (fun gh => rfl) rfl ?_
      refine HJ.gn rfl (fun gh => rfl) rfl ?_
      refine HJ.gu rfl (fun gh => rfl) ?_
      refine HJ.gu rfl (fun gh => rfl) ?_
      refine HJ.gu rfl (fun gh => rfl) ?_
      refine HJ.gu rfl (fun gh => rfl) ?_
      refine HJ.gu rfl (fun gh => rfl) ?_
      refine HJ.gu rfl (fun gh => rfl) ?_
      refine HJ.gu rfl (fun gh => rfl) ?_
      refine HJ.gu rfl (fun gh => rfl) ?_
      refine HJ.gu rfl (fun gh => rfl) ?_
      refine HJ.close 24 1 foll0 (by kernel_rfl) rfl rfl fun gh => ?_
      refine J.conv (us' := (19, _) :: (20, _) :: (21, _) :: (22, _) :: (23, _) :: (24, _) :: (25, _) :: (26, _) :: (27, _) :: (28, _) :: (29, _) :: (30, _) :: (31, _) :: (32, _) :: (33, _) :: (34, _) :: (35, _) :: (36, _) :: (37, _) :: (38, _) :: (39, _) :: (40, _) :: (41, _) :: (42, _) :: _) (L' := _) rfl rfl ?_
      refine J.gu rfl rfl rfl ?_
      refine J.nil ?_
      refine EJ.still ?_
      refine JS.gu rfl rfl rfl ?_
      refine JS.gn rfl rfl rfl rfl ?_
      refine JS.op (PR.pickT rfl rfl rfl) rfl ?_
      refine JS.nil ?_
      refine EJ.thenN (hK8 ?_)
      refine CJ.condT rfl ?_
      refine CJ.seq fun _ hK9 _ => ?_
      refine CJ.region ?_
      refine J.p (PR.assign rfl) rfl ?_
      refine J.nil ?_
      refine EJ.thenN (hK9 ?_)
      refine CJ.ret ?_
      refine EJ.inR ?_
      refine EJ.thenR ?_
      refine EJ.thenR ?_
      refine EJ.inR ?_
      refine EJ.thenR ?_
      refine EJ.ret1 rfl (Res.tmp rfl) fun w hH => ?_
      replace hH := hH.tail
      replace hH := hH.tail
      exact ⟨rb (isForm_bad (k := k) (by omega) (good_mono (nott h24))).symm, hH⟩
    ·
      try have h24p := of_decide_eq_false h24
      refine HJ.gy (fun gh => PR.fldA u66 rfl sz2 rfl) rfl (fun gh => rfl) h24 ?_
      refine HJ.gy (fun gh => PR.ldFac rfl At.z (hts.wf k (by omega)) pl2) rfl (fun gh => rfl) h24 ?_
      refine HJ.gcall fn49 rfl (fun gh => rfl) h24 (fun gh => rfl) (fun w X hH => l01In_c  hH) ?_
      refine HJ.gy (fun gh => PR.not rfl) rfl (fun gh => rfl) h24 ?_
      refine HJ.op (fun gh => PR.pickF rfl h24 rfl) ?_
      refine HJ.op (fun gh => PR.move rfl) ?_
      refine HJ.splitB 11 rfl (fun h30 => ?_) (fun h30 => ?_)
      ·
        try have h30p := of_decide_eq_true h30
        refine HJ.gn rfl (fun gh => rfl) h30 ?_
        refine HJ.gn rfl (fun gh => rfl) h30 ?_
        refine HJ.gn rfl (fun gh => rfl) h30 ?_
        refine HJ.gu rfl (fun gh => rfl) ?_
        refine HJ.gu rfl (fun gh => rfl) ?_
        refine HJ.gu rfl (fun gh => rfl) ?_
        refine HJ.gu rfl (fun gh => rfl) ?_
        refine HJ.gu rfl (fun gh => rfl) ?_
        refine HJ.gu rfl (fun gh => rfl) ?_
        refine HJ.gu rfl (fun gh => rfl) ?_
        refine HJ.gu rfl (fun gh => rfl) ?_
        refine HJ.gu rfl (fun gh => rfl) ?_
        refine HJ.close 24 1 foll0 (by kernel_rfl) rfl rfl fun gh => ?_
        refine J.conv (us' := (19, _) :: (20, _) :: (21, _) :: (22, _) :: (23, _) :: (24, _) :: (25, _) :: (26, _) :: (27, _) :: (28, _) :: (29, _) :: (30, _) :: (31, _) :: (32, _) :: (33, _) :: (34, _) :: (35, _) :: (36, _) :: (37, _) :: (38, _) :: (39, _) :: (40, _) :: (41, _) :: (42, _) :: _) (L' := _) rfl rfl ?_
        refine J.gu rfl rfl rfl ?_
        refine J.nil ?_
        refine EJ.still ?_
        refine JS.gu rfl rfl rfl ?_
        refine JS.gn rfl rfl rfl h30 ?_
        refine JS.op (PR.pickT rfl h30 rfl) rfl ?_
        refine JS.nil ?_
        refine EJ.thenN (hK8 ?_)
        refine CJ.condT rfl ?_
        refine CJ.seq fun _ hK10 _ => ?_
        refine CJ.region ?_
        refine J.p (PR.assign rfl) rfl ?_
        refine J.nil ?_
        refine EJ.thenN (hK10 ?_)
        refine CJ.ret ?_
        refine EJ.inR ?_
        refine EJ.thenR ?_
        refine EJ.thenR ?_
        refine EJ.inR ?_
        refine EJ.thenR ?_
        refine EJ.ret1 rfl (Res.tmp rfl) fun w hH => ?_
        replace hH := hH.tail
        replace hH := hH.tail
        exact ⟨rb (isForm_bad (k := k) (by omega) (good_fac (nott h30))).symm, hH⟩
      ·
        try have h30p := of_decide_eq_false h30
        refine HJ.gy (fun gh => PR.move rfl) rfl (fun gh => rfl) h30 ?_
        refine HJ.gy (fun gh => PR.gtr rfl rfl) rfl (fun gh => rfl) h30 ?_
        refine HJ.gy (fun gh => PR.move rfl) rfl (fun gh => rfl) h30 ?_
        refine HJ.splitB 14 rfl (fun h33 => ?_) (fun h33 => ?_)
        ·
          try have h33p := of_decide_eq_true h33
          refine HJ.gy (fun gh => PR.fldA u32 rfl sz30 rfl) rfl (fun gh => rfl) h33 ?_
          refine HJ.gy (fun gh => PR.load rfl (.s .z) rfl pl30) rfl (fun gh => rfl) h33 ?_
          refine HJ.gy (fun gh => PR.move rfl) rfl (fun gh => rfl) h33 ?_
          refine HJ.gy (fun gh => PR.sub rfl rfl (by first | exact nw _ (by omega) | rfl)) rfl (fun gh => rfl) h33 ?_
          refine HJ.gy (fun gh => PR.idx (i' := (k - 1)) u30 sz66 rfl rfl (by omega) (by omega) hts.sm) rfl (fun gh => rfl) h33 ?_
          refine HJ.gy (fun gh => PR.fldP u66 rfl sz64 rfl (hts.sm (i := (k - 1)) (by omega))) rfl (fun gh => rfl) h33 ?_
          refine HJ.gy (fun gh => PR.loadHagg rfl (hts.mono (by omega)) (hts.sm (i := (k - 1)) (by omega)) (by rw [bytesC_length, (hts.wf _ (by omega)).mono.len]; exact ag64)) rfl (fun gh => rfl) h33 ?_
          refine HJ.gy (fun gh => PR.fldA u66 rfl sz64 rfl) rfl (fun gh => rfl) h33 ?_
          refine HJ.gy (fun gh => PR.ldMono rfl At.z (hts.wf k (by omega)) ag64) rfl (fun gh => rfl) h33 ?_
          refine HJ.close 24 1 foll0 (by kernel_rfl) rfl rfl fun gh => ?_
          refine J.conv (us' := (19, _) :: (20, _) :: (21, _) :: (22, _) :: (23, _) :: (24, _) :: (25, _) :: (26, _) :: (27, _) :: (28, _) :: (29, _) :: (30, _) :: (31, _) :: (32, _) :: (33, _) :: (34, _) :: (35, _) :: (36, _) :: (37, _) :: (38, _) :: (39, _) :: (40, _) :: (41, _) :: (42, _) :: _) (L' := _) rfl rfl ?_
          refine J.gcall fn51 rfl rfl h33 rfl rfl fun w hH => (l01Before_c (hts.wf (k - 1) (by omega)).mono (hts.wf k (by omega)).mono hH).mono ?_
          rintro _ w ⟨rfl, hH⟩
          refine ⟨_, rfl, fun a hF => J.of hF hH ?_⟩
          refine J.nil ?_
          refine EJ.still ?_
          refine JS.gy (PR.not rfl) rfl rfl rfl h33 ?_
          refine JS.gy (PR.pickT rfl h33 rfl) rfl rfl rfl h30 ?_
          refine JS.op (PR.pickF rfl h30 rfl) rfl ?_
          refine JS.nil ?_
          refine EJ.thenN (hK8 ?_)
          refine CJ.cond rfl (fun h46 => ?_) (fun h46 => ?_)
          ·
            refine CJ.seq fun _ hK11 _ => ?_
            refine CJ.region ?_
            refine J.p (PR.assign rfl) rfl ?_
            refine J.nil ?_
            refine EJ.thenN (hK11 ?_)
            refine CJ.ret ?_
            refine EJ.inR ?_
            refine EJ.thenR ?_
            refine EJ.thenR ?_
            refine EJ.inR ?_
            refine EJ.thenR ?_
            refine EJ.ret1 rfl (Res.tmp rfl) fun w hH => ?_
            replace hH := hH.tail
            replace hH := hH.tail
            exact ⟨rb (isForm_bad (k := k) (by omega) (good_ord (by omega) (nott h46))).symm, hH⟩
          ·
            refine CJ.skip ?_
            refine EJ.inN ?_
            refine EJ.thenN (hK6 ?_)
            refine CJ.region ?_
            refine J.p (PR.move rfl) rfl ?_
            refine J.p (PR.add rfl rfl (by first | exact nw _ (by omega) | rfl)) rfl ?_
            refine J.p (PR.assign rfl) rfl ?_
            refine J.nil ?_
            refine EJ.thenN ?_
            refine EJ.drop .z ?_
            exact hAg0 (k + 1) ⟨by omega, upto hI.2 (good_yes (notf h24) (notf h30) (.inr (notf h46)))⟩ (by omega) 43 rfl rfl ⟨rfl, trivial⟩ rfl rfl
        ·
          try have h33p := of_decide_eq_false h33
          refine HJ.gn rfl (fun gh => rfl) h33 ?_
          refine HJ.gn rfl (fun gh => rfl) h33 ?_
          refine HJ.gn rfl (fun gh => rfl) h33 ?_
          refine HJ.gn rfl (fun gh => rfl) h33 ?_
          refine HJ.gn rfl (fun gh => rfl) h33 ?_
          refine HJ.gn rfl (fun gh => rfl) h33 ?_
          refine HJ.gn rfl (fun gh => rfl) h33 ?_
          refine HJ.gn rfl (fun gh => rfl) h33 ?_
          refine HJ.gn rfl (fun gh => rfl) h33 ?_
          refine HJ.close 24 1 foll0 (by kernel_rfl) rfl rfl fun gh => ?_
          refine J.conv (us' := (19, _) :: (20, _) :: (21, _) :: (22, _) :: (23, _) :: (24, _) :: (25, _) :: (26, _) :: (27, _) :: (28, _) :: (29, _) :: (30, _) :: (31, _) :: (32, _) :: (33, _) :: (34, _) :: (35, _) :: (36, _) :: (37, _) :: (38, _) :: (39, _) :: (40, _) :: (41, _) :: (42, _) :: _) (L' := _) rfl rfl ?_
          refine J.gn rfl rfl rfl h33 ?_
          refine J.nil ?_
          refine EJ.still ?_
          refine JS.gn rfl rfl rfl h33 ?_
          refine JS.gy (PR.pickF rfl h33 rfl) rfl rfl rfl h30 ?_
          refine JS.op (PR.pickF rfl h30 rfl) rfl ?_
          refine JS.nil ?_
          refine EJ.thenN (hK8 ?_)
          refine CJ.condF rfl ?_
          refine CJ.skip ?_
          refine EJ.inN ?_
          refine EJ.thenN (hK6 ?_)
          refine CJ.region ?_
          refine J.p (PR.move rfl) rfl ?_
          refine J.p (PR.add rfl rfl (by first | exact nw _ (by omega) | rfl)) rfl ?_
          refine J.p (PR.assign rfl) rfl ?_
          refine J.nil ?_
          refine EJ.thenN ?_
          refine EJ.drop .z ?_
          exact hAg0 (k + 1) ⟨by omega, upto hI.2 (good_yes (notf h24) (notf h30) (.inl (by omega)))⟩ (by omega) 43 rfl rfl ⟨rfl, trivial⟩ rfl rfl
  ·
    refine CJ.exit ?_
    refine EJ.thenE ?_
    refine EJ.thenE ?_
    refine EJ.inE ?_
    refine EJ.thenN (hK2 ?_)
    refine CJ.seq fun _ hK12 _ => ?_
    refine CJ.region ?_
    refine J.p (PR.fldA u32 rfl sz30 rfl) rfl ?_
    refine J.p (PR.load rfl At.z rfl pl30) rfl ?_
    refine J.p (PR.lenSlice u30 rfl rfl) rfl ?_
    refine J.p (PR.leq rfl rfl) rfl ?_
    refine J.p (PR.assign rfl) rfl ?_
    refine J.nil ?_
    refine EJ.thenN (hK12 ?_)
    refine CJ.ret ?_
    refine EJ.ret1 rfl (Res.tmp rfl) fun w hH => ?_
    replace hH := hH.tail
    exact ⟨rb (isForm_good (fun j hj => hI.2 j (by omega))).symm, hH⟩
end Go.Proofs.YtbjhllmcnfncdaaDoor.G
namespace Go.Proofs.YtbjhllmcnfncdaaDoor.G
open Go Go.RowKit
namespace Wf
theorem u30 : Tryd.prog.underlying 30 = some (TypeDesc.slice 66) := by kernel_rfl
theorem u32 : Tryd.prog.underlying 32 = some (TypeDesc.struct #[{ name := "Terms", type := 30, offset := 0, embedded := false, tag := "", pkgPath := "", byteOffset := 0 }]) := by kernel_rfl
theorem u64 : Tryd.prog.underlying 64 = some (TypeDesc.array 8 5) := by kernel_rfl
theorem u66 : Tryd.prog.underlying 66 = some (TypeDesc.struct #[{ name := "Monomial", type := 64, offset := 0, embedded := false, tag := "", pkgPath := "", byteOffset := 0 }, { name := "Factor", type := 2, offset := 8, embedded := false, tag := "", pkgPath := "", byteOffset := 8 }]) := by kernel_rfl
theorem sz30 : Size Tryd.prog 30 1 := by unfold Size; kernel_rfl
theorem sz64 : Size Tryd.prog 64 8 := by unfold Size; kernel_rfl
theorem sz66 : Size Tryd.prog 66 9 := by unfold Size; kernel_rfl
theorem ze66 : Zero Tryd.prog 66 [.int .u8 0, .int .u8 0, .int .u8 0, .int .u8 0, .int .u8 0, .int .u8 0, .int .u8 0, .int .u8 0, .int .i64 0] := by unfold Zero; kernel_rfl
theorem pl30 : Plain Tryd.prog 30 := ⟨_, u30, rfl⟩
theorem ag64 : Agg Tryd.prog 64 8 := ⟨_, u64, rfl, by kernel_rfl⟩
theorem ag66 : Agg Tryd.prog 66 9 := ⟨_, u66, rfl, by kernel_rfl⟩
theorem fn58 : Fn Tryd.prog 58 := ⟨_, Tryd.func58, by kernel_rfl, rfl⟩
theorem fn65 : Fn Tryd.prog 65 := ⟨_, Tryd.func65, by kernel_rfl, rfl⟩
theorem fn92 : Fn Tryd.prog 92 := ⟨_, Tryd.func92, by kernel_rfl, rfl⟩
end Wf
open Wf
def wd (ds : List Int) (ts : List Term) (i : Nat) : Int := wsum ds (tm ts i).mono ds.length
theorem wd_bd {ds : List Int} {ts : List Term} {i : Nat} (hn : ds.length ≤ 8) (hd : ∀ j, 0 ≤ ds.getD j 0 ∧ ds.getD j 0 ≤ 12) (hw : Mono (tm ts i).mono) : 0 ≤ wd ds ts i ∧ wd ds ts i ≤ 24480 := by
  have h := wsum_bd hd hw.bd ds.length
  unfold wd
  omega
def outAt (ds : List Int) (ts : List Term) (k : Nat) : Int := if k = 0 then -1 else wd ds ts 0
theorem outAt_pos {ds : List Int} {ts : List Term} {k : Nat} (h : outAt ds ts k ≥ 0) : 0 < k ∧ outAt ds ts k = wd ds ts 0 := by
  unfold outAt at h ⊢
  by_cases e : k = 0
  · rw [if_pos e] at h; omega
  · exact ⟨by omega, if_neg e⟩
theorem outAt_neg {ds : List Int} {ts : List Term} {k : Nat} (h0 : 0 ≤ wd ds ts 0) (h : ¬ outAt ds ts k ≥ 0) : k = 0 := by
  unfold outAt at h
  by_cases e : k = 0
  · exact e
  · rw [if_neg e] at h; omega
theorem outAt_succ {ds : List Int} {ts : List Term} {k : Nat} (h : wd ds ts k = wd ds ts 0) : wd ds ts k = outAt ds ts (k + 1) := by unfold outAt; rw [if_neg (by omega), h]
def homog (ds : List Int) (ts : List Term) : Bool := (List.range ts.length).all fun i => decide (wd ds ts i = wd ds ts 0)
def degF (ds : List Int) (ts : List Term) : Int := if homog ds ts then outAt ds ts ts.length else 0
theorem homog_no {ds : List Int} {ts : List Term} {k : Nat} (hk : k < ts.length) (h : wd ds ts k ≠ wd ds ts 0) : homog ds ts = false := by
  unfold homog
  exact List.all_eq_false.2 ⟨k, by simpa using hk, by simpa using h⟩
theorem homog_yes {ds : List Int} {ts : List Term} (h : ∀ j, j < ts.length → wd ds ts j = wd ds ts 0) : homog ds ts = true := by
  unfold homog
  exact List.all_eq_true.2 fun j hj => by simpa using h j (by simpa using hj)
theorem degRet {ds : List Int} {ts : List Term} {v : Int} {b : Bool} (hb : homog ds ts = b) (hv : v = if b then outAt ds ts ts.length else 0) : Ending.returned (.tuple #[.int .i64 v, .bool b]) = .returned (.tuple #[.int .i64 (degF ds ts), .bool (homog ds ts)]) := by
  rw [hv, degF, hb]
set_option maxRecDepth 10000 in
theorem degreeOf_c {B : World} {H0 H : HP} {L : List SA} {w : World} {qds : Option Addr} {cds : Nat} {ds : List Int} {qts : Option Addr} {cts : Nat} {ts : List Term}  (hds : Ints H qds ds) (hts : Terms H qts ts) (hn : ds.length ≤ 8) (hd : ∀ j, 0 ≤ ds.getD j 0 ∧ ds.getD j 0 ≤ 12) (hl : ts.length ≤ 9223372036854775807) (hH : Hp B H0 H L w) :
    Calls Tryd.prog 80 [.slice qds ds.length cds, .agg [.slice qts ts.length cts].toArray].toArray w fun e w' => e = .returned (.tuple #[.int .i64 (degF ds ts), .bool (homog ds ts)]) ∧ Hp B H0 H L w' := by
  refine CJ.enter Tryd.func80 rfl 32 rfl rfl [(0, .slice qds ds.length cds), (1, .agg [.slice qts ts.length cts].toArray)] rfl hH ?_
  clear hH
  refine CJ.seq fun _ hK1 _ => ?_
  refine CJ.region ?_
  refine J.box rfl rfl rfl fun g3 => ?_
  refine J.p (PR.assign rfl) rfl ?_
  refine J.p (PR.assign rfl) rfl ?_
  refine J.nil ?_
  refine EJ.thenN (hK1 ?_)
  refine CJ.seq fun _ hK2 _ => ?_
  refine CJ.region ?_
  refine J.p (PR.assign rfl) rfl ?_
  refine J.nil ?_
  refine EJ.thenN (hK2 ?_)
  refine CJ.seq fun _ hK3 _ => ?_
  refine CJ.seq fun _ hK4 _ => ?_
  refine CJ.region ?_
  refine J.p (PR.fldA u32 rfl sz30 rfl) rfl ?_
  refine J.p (PR.load rfl At.z rfl pl30) rfl ?_
  refine J.p (PR.lenSlice u30 rfl rfl) rfl ?_
  refine J.p (PR.move rfl) rfl ?_
  refine J.nil ?_
  refine EJ.thenN (hK4 ?_)
  refine CJ.block ?_
  refine CJ.loopU (σ := Nat) (fun (k : Nat) => [(13, .int .i64 (k : Int)), (6, .int .i64 (outAt ds ts k))]) (fun (k : Nat) => H) (fun (k : Nat) => obj g3 (.cells [.slice qts ts.length cts].toArray 32 (0, 0)) :: L) (fun (k : Nat) => k ≤ ts.length ∧ ∀ j, j < k → wd ds ts j = wd ds ts 0) (fun (k : Nat) => ts.length - k) 0 ⟨by omega, fun j hj => by omega⟩ ⟨rfl, ⟨rfl, trivial⟩⟩ rfl rfl ?_
  rintro k hI _ hAg0
  have hk := hI.1
  refine CJ.seq fun _ hK5 _ => ?_
  refine CJ.region ?_
  refine J.p (PR.lss rfl rfl) rfl ?_
  refine J.nil ?_
  refine EJ.thenN (hK5 ?_)
  refine CJ.seq fun _ hK6 _ => ?_
  refine CJ.condD rfl (fun hc14 => ?_) (fun hc14 => ?_)
  ·
    refine CJ.skip ?_
    refine EJ.thenN (hK6 ?_)
    refine CJ.seq fun _ hK7 _ => ?_
    refine CJ.block ?_
    refine CJ.seq fun _ hK8 _ => ?_
    refine CJ.region ?_
    refine J.p (PR.idx u30 sz66 rfl rfl rfl (by omega) hts.sm) rfl ?_
    refine J.p (PR.loadHagg rfl (hts.cell _ (by omega)) (hts.sm (i := k) (by omega)) (by rw [Term.c_length (hts.wf _ (by omega))]; exact ag66)) rfl ?_
    refine J.alloc (cs := (default : Term).c) ze66 rfl fun g8 => ?_
    refine J.stTerm rfl rfl sz66 zero_wf (hts.wf k (by omega)) At.z ?_
    refine J.nil ?_
    refine EJ.thenN (hK8 ?_)
    refine CJ.seq fun _ hK9 _ => ?_
    refine CJ.region ?_
    refine J.p (PR.fldA u66 rfl sz64 rfl) rfl ?_
    refine J.p (PR.ldMono rfl At.z (hts.wf k (by omega)) ag64) rfl ?_
    refine J.call fn58 rfl rfl fun w hH => (powerOf_c (hts.wf k (by omega)).mono hH).mono ?_
    rintro _ w ⟨rfl, hH⟩
    refine ⟨_, rfl, fun a hF => J.of hF hH ?_⟩
    refine J.p (PR.move rfl) rfl ?_
    refine J.call fn92 rfl rfl fun w hH => (degree_c (hts.wf k (by omega)).mono.len hds hn hd (hts.wf k (by omega)).mono.small hH).mono ?_
    rintro _ w ⟨rfl, hH⟩
    refine ⟨_, rfl, fun a hF => J.of hF hH ?_⟩
    refine J.p (PR.assign rfl) rfl ?_
    refine J.nil ?_
    refine EJ.thenN (hK9 ?_)
    refine CJ.seq fun _ hK10 _ => ?_
    refine CJ.seq fun _ hK11 _ => ?_
    refine CJ.region ?_
    refine J.p (PR.move rfl) rfl ?_
    refine J.p (PR.geq rfl rfl) rfl ?_
    refine J.p (PR.move rfl) rfl ?_
    refine J.splitB (jd := 24) rfl (fun h24 => ?_) (fun h24 => ?_)
    ·
      try have h24p := of_decide_eq_true h24
      refine J.gy (PR.move rfl) rfl rfl rfl h24 ?_
      refine J.gy (PR.move rfl) rfl rfl rfl h24 ?_
      refine J.gy (PR.neq rfl rfl) rfl rfl rfl h24 ?_
      refine J.p (PR.pickT rfl h24 rfl) rfl ?_
      refine J.nil ?_
      refine EJ.thenN (hK11 ?_)
      refine CJ.condD rfl (fun h28 => ?_) (fun h28 => ?_)
      ·
        refine CJ.seq fun _ hK12 _ => ?_
        refine CJ.region ?_
        refine J.p (PR.assign rfl) rfl ?_
        refine J.p (PR.assign rfl) rfl ?_
        refine J.nil ?_
        refine EJ.thenN (hK12 ?_)
        refine CJ.ret ?_
        refine EJ.thenR ?_
        refine EJ.inR ?_
        refine EJ.thenR ?_
        refine EJ.thenR ?_
        refine EJ.inR ?_
        refine EJ.thenR ?_
        refine EJ.ret2 rfl (Res.tmp rfl) (Res.tmp rfl) fun w hH => ?_
        replace hH := hH.tail
        replace hH := hH.tail
        exact ⟨degRet (homog_no (k := k) (by omega) (fun e => h28 (e.trans (outAt_pos h24p).2.symm))) rfl, hH⟩
      ·
        have h28x : wd ds ts k = wd ds ts 0 := (Decidable.not_not.1 h28).trans (outAt_pos h24p).2
        refine CJ.skip ?_
        refine EJ.thenN (hK10 ?_)
        refine CJ.region ?_
        refine J.p (PR.move rfl) rfl ?_
        refine J.p (PR.assign rfl) rfl ?_
        refine J.nil ?_
        refine EJ.inN ?_
        refine EJ.thenN (hK7 ?_)
        refine CJ.region ?_
        refine J.p (PR.add rfl rfl (by first | exact nw _ (by omega) | rfl)) rfl ?_
        refine J.p (PR.move rfl) rfl ?_
        refine J.nil ?_
        refine EJ.thenN ?_
        refine EJ.drop .z ?_
        exact hAg0 (k + 1) ⟨by omega, upto hI.2 h28x⟩ (by omega) 23 rfl rfl ⟨rfl, ⟨(vi (outAt_succ (h28x))), trivial⟩⟩ rfl rfl
    ·
      try have h24p := of_decide_eq_false h24
      refine J.gn rfl rfl rfl h24 ?_
      refine J.gn rfl rfl rfl h24 ?_
      refine J.gn rfl rfl rfl h24 ?_
      refine J.p (PR.pickF rfl h24 rfl) rfl ?_
      refine J.nil ?_
      refine EJ.thenN (hK11 ?_)
      refine CJ.condF rfl ?_
      refine CJ.skip ?_
      refine EJ.thenN (hK10 ?_)
      refine CJ.region ?_
      refine J.p (PR.move rfl) rfl ?_
      refine J.p (PR.assign rfl) rfl ?_
      refine J.nil ?_
      refine EJ.inN ?_
      refine EJ.thenN (hK7 ?_)
      refine CJ.region ?_
      refine J.p (PR.add rfl rfl (by first | exact nw _ (by omega) | rfl)) rfl ?_
      refine J.p (PR.move rfl) rfl ?_
      refine J.nil ?_
      refine EJ.thenN ?_
      refine EJ.drop .z ?_
      exact hAg0 (k + 1) ⟨by omega, upto hI.2 (congrArg (wd ds ts) (outAt_neg (wd_bd hn hd (hts.wf 0 (by omega)).mono).1 h24p))⟩ (by omega) 23 rfl rfl ⟨rfl, ⟨(vi (outAt_succ ((congrArg (wd ds ts) (outAt_neg (wd_bd hn hd (hts.wf 0 (by omega)).mono).1 h24p))))), trivial⟩⟩ rfl rfl
  ·
    refine CJ.exit ?_
    refine EJ.thenE ?_
    refine EJ.thenE ?_
    refine EJ.inE ?_
    refine EJ.thenN (hK3 ?_)
    refine CJ.seq fun _ hK13 _ => ?_
    refine CJ.region ?_
    refine J.p (PR.move rfl) rfl ?_
    refine J.p (PR.assign rfl) rfl ?_
    refine J.p (PR.assign rfl) rfl ?_
    refine J.nil ?_
    refine EJ.thenN (hK13 ?_)
    refine CJ.ret ?_
    refine EJ.ret2 rfl (Res.tmp rfl) (Res.tmp rfl) fun w hH => ?_
    replace hH := hH.tail
    obtain rfl : k = ts.length := by omega
    exact ⟨degRet (homog_yes hI.2) rfl, hH⟩
set_option maxRecDepth 10000 in
theorem l01Degree_c {B : World} {H0 H : HP} {L : List SA} {w : World} {qds : Option Addr} {cds : Nat} {ds : List Int} {qts : Option Addr} {cts : Nat} {ts : List Term}  (hds : Ints H qds ds) (hts : Terms H qts ts) (hn : ds.length ≤ 8) (hd : ∀ j, 0 ≤ ds.getD j 0 ∧ ds.getD j 0 ≤ 12) (hl : ts.length ≤ 9223372036854775807) (hH : Hp B H0 H L w) :
    Calls Tryd.prog 43 [.slice qds ds.length cds, .agg [.slice qts ts.length cts].toArray].toArray w fun e w' => e = .returned (.tuple #[.int .i64 (degF ds ts), .bool (homog ds ts)]) ∧ Hp B H0 H L w' := by
  refine CJ.enter Tryd.func43 rfl 37 rfl rfl [(0, .slice qds ds.length cds), (1, .agg [.slice qts ts.length cts].toArray)] rfl hH ?_
  clear hH
  refine CJ.seq fun _ hK1 _ => ?_
  refine CJ.region ?_
  refine J.box rfl rfl rfl fun g3 => ?_
  refine J.p (PR.assign rfl) rfl ?_
  refine J.p (PR.assign rfl) rfl ?_
  refine J.nil ?_
  refine EJ.thenN (hK1 ?_)
  refine CJ.seq fun _ hK2 _ => ?_
  refine CJ.seq fun _ hK3 _ => ?_
  refine CJ.region ?_
  refine J.p (PR.fldA u32 rfl sz30 rfl) rfl ?_
  refine J.p (PR.load rfl At.z rfl pl30) rfl ?_
  refine J.p (PR.lenSlice u30 rfl rfl) rfl ?_
  refine J.p (PR.eql rfl rfl) rfl ?_
  refine J.nil ?_
  refine EJ.thenN (hK3 ?_)
  refine CJ.condD rfl (fun h11 => ?_) (fun h11 => ?_)
  ·
    refine CJ.seq fun _ hK4 _ => ?_
    refine CJ.region ?_
    refine J.p (PR.assign rfl) rfl ?_
    refine J.p (PR.assign rfl) rfl ?_
    refine J.nil ?_
    refine EJ.thenN (hK4 ?_)
    refine CJ.ret ?_
    refine EJ.thenR ?_
    refine EJ.ret2 rfl (Res.tmp rfl) (Res.tmp rfl) fun w hH => ?_
    replace hH := hH.tail
    exact ⟨degRet (homog_yes (fun j hj => by omega)) (by rw [if_pos rfl]; unfold outAt; rw [if_pos (by omega)]), hH⟩
  ·
    refine CJ.skip ?_
    refine EJ.thenN (hK2 ?_)
    refine CJ.seq fun _ hK5 _ => ?_
    refine CJ.region ?_
    refine J.p (PR.move rfl) rfl ?_
    refine J.p (PR.fldA u32 rfl sz30 rfl) rfl ?_
    refine J.p (PR.load rfl At.z rfl pl30) rfl ?_
    refine J.p (PR.idx (i' := 0) u30 sz66 rfl rfl rfl (by omega) hts.sm) rfl ?_
    refine J.p (PR.fldP u66 rfl sz64 rfl (hts.sm (i := 0) (by omega))) rfl ?_
    refine J.p (PR.loadHagg rfl (hts.mono (by omega)) (hts.sm (i := 0) (by omega)) (by rw [bytesC_length, (hts.wf _ (by omega)).mono.len]; exact ag64)) rfl ?_
    refine J.call fn65 rfl rfl fun w hH => (l01Weight_c hds (hts.wf 0 (by omega)).mono hn hd hH).mono ?_
    rintro _ w ⟨rfl, hH⟩
    refine ⟨_, rfl, fun a hF => J.of hF hH ?_⟩
    refine J.p (PR.assign rfl) rfl ?_
    refine J.nil ?_
    refine EJ.thenN (hK5 ?_)
    refine CJ.seq fun _ hK6 _ => ?_
    refine CJ.seq fun _ hK7 _ => ?_
    refine CJ.region ?_
    refine J.p (PR.assign rfl) rfl ?_
    refine J.nil ?_
    refine EJ.thenN (hK7 ?_)
    refine CJ.block ?_
    refine CJ.loopU (σ := Nat) (fun (k : Nat) => [(7, .int .i64 (k : Int))]) (fun (k : Nat) => H) (fun (k : Nat) => obj g3 (.cells [.slice qts ts.length cts].toArray 32 (0, 0)) :: L) (fun (k : Nat) => 1 ≤ k ∧ k ≤ ts.length ∧ ∀ j, j < k → wd ds ts j = wd ds ts 0) (fun (k : Nat) => ts.length - k) 1 ⟨by omega, by omega, fun j hj => by rw [show j = 0 by omega]⟩ ⟨rfl, trivial⟩ rfl rfl ?_
    rintro k hI _ hAg0
    have hk := hI.2.1
    refine CJ.seq fun _ hK8 _ => ?_
    refine CJ.seq fun _ hK9 _ => ?_
    refine CJ.region ?_
    refine J.p (PR.move rfl) rfl ?_
    refine J.p (PR.fldA u32 rfl sz30 rfl) rfl ?_
    refine J.p (PR.load rfl At.z rfl pl30) rfl ?_
    refine J.p (PR.lenSlice u30 rfl rfl) rfl ?_
    refine J.p (PR.lss rfl rfl) rfl ?_
    refine J.nil ?_
    refine EJ.thenN (hK9 ?_)
    refine CJ.condD rfl (fun hc23 => ?_) (fun hc23 => ?_)
    ·
      refine CJ.skip ?_
      refine EJ.thenN (hK8 ?_)
      refine CJ.seq fun _ hK10 _ => ?_
      refine CJ.block ?_
      refine CJ.seq fun _ hK11 _ => ?_
      refine CJ.region ?_
      refine J.p (PR.move rfl) rfl ?_
      refine J.p (PR.fldA u32 rfl sz30 rfl) rfl ?_
      refine J.p (PR.load rfl At.z rfl pl30) rfl ?_
      refine J.p (PR.move rfl) rfl ?_
      refine J.p (PR.idx u30 sz66 rfl rfl rfl (by omega) hts.sm) rfl ?_
      refine J.p (PR.fldP u66 rfl sz64 rfl (hts.sm (i := k) (by omega))) rfl ?_
      refine J.p (PR.loadHagg rfl (hts.mono (by omega)) (hts.sm (i := k) (by omega)) (by rw [bytesC_length, (hts.wf _ (by omega)).mono.len]; exact ag64)) rfl ?_
      refine J.call fn65 rfl rfl fun w hH => (l01Weight_c hds (hts.wf k (by omega)).mono hn hd hH).mono ?_
      rintro _ w ⟨rfl, hH⟩
      refine ⟨_, rfl, fun a hF => J.of hF hH ?_⟩
      refine J.p (PR.move rfl) rfl ?_
      refine J.p (PR.neq rfl rfl) rfl ?_
      refine J.nil ?_
      refine EJ.thenN (hK11 ?_)
      refine CJ.condD rfl (fun h35 => ?_) (fun h35 => ?_)
      ·
        refine CJ.seq fun _ hK12 _ => ?_
        refine CJ.region ?_
        refine J.p (PR.assign rfl) rfl ?_
        refine J.p (PR.assign rfl) rfl ?_
        refine J.nil ?_
        refine EJ.thenN (hK12 ?_)
        refine CJ.ret ?_
        refine EJ.inR ?_
        refine EJ.thenR ?_
        refine EJ.thenR ?_
        refine EJ.inR ?_
        refine EJ.thenR ?_
        refine EJ.ret2 rfl (Res.tmp rfl) (Res.tmp rfl) fun w hH => ?_
        replace hH := hH.tail
        exact ⟨degRet (homog_no (k := k) (by omega) h35) rfl, hH⟩
      ·
        refine CJ.skip ?_
        refine EJ.inN ?_
        refine EJ.thenN (hK10 ?_)
        refine CJ.region ?_
        refine J.p (PR.move rfl) rfl ?_
        refine J.p (PR.add rfl rfl (by first | exact nw _ (by omega) | rfl)) rfl ?_
        refine J.p (PR.assign rfl) rfl ?_
        refine J.nil ?_
        refine EJ.thenN ?_
        exact hAg0 (k + 1) ⟨by omega, by omega, upto hI.2.2 (Decidable.not_not.1 h35)⟩ (by omega) 19 rfl rfl ⟨rfl, trivial⟩ rfl rfl
    ·
      refine CJ.exit ?_
      refine EJ.thenE ?_
      refine EJ.thenE ?_
      refine EJ.inE ?_
      refine EJ.thenN (hK6 ?_)
      refine CJ.seq fun _ hK13 _ => ?_
      refine CJ.region ?_
      refine J.p (PR.move rfl) rfl ?_
      refine J.p (PR.assign rfl) rfl ?_
      refine J.p (PR.assign rfl) rfl ?_
      refine J.nil ?_
      refine EJ.thenN (hK13 ?_)
      refine CJ.ret ?_
      refine EJ.ret2 rfl (Res.tmp rfl) (Res.tmp rfl) fun w hH => ?_
      replace hH := hH.tail
      obtain rfl : k = ts.length := by omega
      exact ⟨degRet (homog_yes hI.2.2) (by rw [if_pos rfl]; unfold outAt; rw [if_neg (by omega)]; rfl), hH⟩
end Go.Proofs.YtbjhllmcnfncdaaDoor.G
namespace Go.Proofs.YtbjhllmcnfncdaaDoor.G
open Go Go.RowKit
namespace Wg
theorem sz2 : Size Tryd.prog 2 1 := by unfold Size; kernel_rfl
end Wg
open Wg
end Go.Proofs.YtbjhllmcnfncdaaDoor.G
namespace Go.Proofs.YtbjhllmcnfncdaaDoor.G
open Go Go.RowKit
set_option maxRecDepth 10000 in
theorem when_c {B : World} {H0 H : HP} {L : List SA} {w : World} {b : Bool} {x : Int}   (hH : Hp B H0 H L w) :
    Calls Tryd.prog 48 [.bool b, .int .i64 x].toArray w fun e w' => e = .returned (.int .i64 (if b then x else 0)) ∧ Hp B H0 H L w' := by
  refine CJ.enter Tryd.func48 rfl 7 rfl rfl [(0, .bool b), (1, .int .i64 x)] rfl hH ?_
  clear hH
  refine CJ.seq fun _ hK1 _ => ?_
  refine CJ.region ?_
  refine J.p (PR.assign rfl) rfl ?_
  refine J.nil ?_
  refine EJ.thenN (hK1 ?_)
  refine CJ.seq fun _ hK2 _ => ?_
  refine CJ.seq fun _ hK3 _ => ?_
  refine CJ.region ?_
  refine J.p (PR.move rfl) rfl ?_
  refine J.nil ?_
  refine EJ.thenN (hK3 ?_)
  refine CJ.cond rfl (fun h5 => ?_) (fun h5 => ?_)
  ·
    refine CJ.seq fun _ hK4 _ => ?_
    refine CJ.region ?_
    refine J.p (PR.move rfl) rfl ?_
    refine J.p (PR.assign rfl) rfl ?_
    refine J.nil ?_
    refine EJ.thenN (hK4 ?_)
    refine CJ.ret ?_
    refine EJ.thenR ?_
    refine EJ.ret1 rfl (Res.tmp rfl) fun w hH => ?_
    exact ⟨by rw [if_pos h5], hH⟩
  ·
    refine CJ.skip ?_
    refine EJ.thenN (hK2 ?_)
    refine CJ.seq fun _ hK5 _ => ?_
    refine CJ.region ?_
    refine J.p (PR.assign rfl) rfl ?_
    refine J.nil ?_
    refine EJ.thenN (hK5 ?_)
    refine CJ.ret ?_
    refine EJ.ret1 rfl (Res.tmp rfl) fun w hH => ?_
    exact ⟨by rw [if_neg (by rw [h5]; simp)], hH⟩
def upd (out : List Int) (k n : Nat) : List Int := out.set k (out.getD k 0 + out.getD (k - n) 0)
def passE (n : Nat) : Nat → List Int → List Int
  | 0, out => out
  | c + 1, out => upd (passE n c out) (n + c) n
def passO (n m : Nat) : Nat → List Int → List Int
  | 0, out => out
  | c + 1, out => upd (passO n m c out) (m - c) n
def pass (m : Nat) (d : Int) (out : List Int) : List Int := if d.tmod 2 = 1 then passO d.toNat m (m + 1 - d.toNat) out else passE d.toNat (m + 1 - d.toNat) out
def serK (ds : List Int) (m : Nat) : Nat → List Int
  | 0 => (List.replicate (m + 1) 0).set 0 1
  | i + 1 => pass m (ds.getD i 0) (serK ds m i)
def series (ds : List Int) (m : Nat) : List Int := serK ds m ds.length
@[simp] theorem upd_length (out : List Int) (k n : Nat) : (upd out k n).length = out.length := by simp [upd]
@[simp] theorem passE_length (n c : Nat) (out : List Int) : (passE n c out).length = out.length := by induction c with | zero => rfl | succ c ih => simp [passE, ih]
@[simp] theorem passO_length (n m c : Nat) (out : List Int) : (passO n m c out).length = out.length := by induction c with | zero => rfl | succ c ih => simp [passO, ih]
@[simp] theorem pass_length (m : Nat) (d : Int) (out : List Int) : (pass m d out).length = out.length := by unfold pass; split <;> simp
@[simp] theorem serK_length (ds : List Int) (m i : Nat) : (serK ds m i).length = m + 1 := by induction i with | zero => simp [serK] | succ i ih => simp [serK, ih]
@[simp] theorem series_length (ds : List Int) (m : Nat) : (series ds m).length = m + 1 := by simp [series]
def In (X : Int) (a : List Int) : Prop := ∀ j, 0 ≤ a.getD j 0 ∧ a.getD j 0 ≤ X
theorem In.le {a : List Int} {X Y : Int} (h : In X a) (hXY : X ≤ Y) : In Y a := fun j => ⟨(h j).1, Int.le_trans (h j).2 hXY⟩
def cap : Nat → Int
  | 0 => 1
  | i + 1 => 41 * cap i
end Go.Proofs.YtbjhllmcnfncdaaDoor.G
namespace Go.Proofs.YtbjhllmcnfncdaaDoor.G
open Go Go.RowKit
namespace Wi
theorem sz2 : Size Tryd.prog 2 1 := by unfold Size; kernel_rfl
theorem sz5 : Size Tryd.prog 5 1 := by unfold Size; kernel_rfl
end Wi
open Wi
end Go.Proofs.YtbjhllmcnfncdaaDoor.G
namespace Go.Proofs.YtbjhllmcnfncdaaDoor.G
open Go Go.RowKit
namespace Wj
theorem u22 : Tryd.prog.underlying 22 = some (TypeDesc.slice 2) := by kernel_rfl
theorem u30 : Tryd.prog.underlying 30 = some (TypeDesc.slice 66) := by kernel_rfl
theorem u32 : Tryd.prog.underlying 32 = some (TypeDesc.struct #[{ name := "Terms", type := 30, offset := 0, embedded := false, tag := "", pkgPath := "", byteOffset := 0 }]) := by kernel_rfl
theorem u42 : Tryd.prog.underlying 42 = some (TypeDesc.slice 32) := by kernel_rfl
theorem u44 : Tryd.prog.underlying 44 = some (TypeDesc.struct #[{ name := "Degrees", type := 22, offset := 0, embedded := false, tag := "", pkgPath := "", byteOffset := 0 }, { name := "Images", type := 42, offset := 1, embedded := false, tag := "", pkgPath := "", byteOffset := 24 }]) := by kernel_rfl
theorem sz22 : Size Tryd.prog 22 1 := by unfold Size; kernel_rfl
theorem sz30 : Size Tryd.prog 30 1 := by unfold Size; kernel_rfl
theorem sz32 : Size Tryd.prog 32 1 := by unfold Size; kernel_rfl
theorem sz42 : Size Tryd.prog 42 1 := by unfold Size; kernel_rfl
theorem pl22 : Plain Tryd.prog 22 := ⟨_, u22, rfl⟩
theorem pl30 : Plain Tryd.prog 30 := ⟨_, u30, rfl⟩
theorem pl42 : Plain Tryd.prog 42 := ⟨_, u42, rfl⟩
theorem ag32 : Agg Tryd.prog 32 1 := ⟨_, u32, rfl, by kernel_rfl⟩
theorem fn10 : Fn Tryd.prog 10 := ⟨_, Tryd.func10, by kernel_rfl, rfl⟩
theorem fn11 : Fn Tryd.prog 11 := ⟨_, Tryd.func11, by kernel_rfl, rfl⟩
theorem fn31 : Fn Tryd.prog 31 := ⟨_, Tryd.func31, by kernel_rfl, rfl⟩
theorem foll0 : Tryd.prog.follows .mixedOrders = true := by kernel_rfl
end Wj
open Wj
set_option maxRecDepth 10000 in
theorem eqFormS_c {B : World} {H0 H : HP} {L : List SA} {w : World} {qxs : Option Addr} {cxs : Nat} {xs : List (List Term)} {qys : Option Addr} {cys : Nat} {ys : List (List Term)}  (hxs : Forms H qxs xs) (hys : Forms H qys ys) (hn : xs.length ≤ 9223372036854775807) (hf : ∀ i, i < xs.length → (fm xs i).length ≤ 9223372036854775807) (hH : Hp B H0 H L w) :
    Calls Tryd.prog 31 [.slice qxs xs.length cxs, .slice qys ys.length cys].toArray w fun e w' => e = .returned (.bool (decide (xs = ys))) ∧ Hp B H0 H L w' := by
  refine CJ.enter Tryd.func31 rfl 27 rfl rfl [(0, .slice qxs xs.length cxs), (1, .slice qys ys.length cys)] rfl hH ?_
  clear hH
  refine CJ.seq fun _ hK1 _ => ?_
  refine CJ.region ?_
  refine J.p (PR.assign rfl) rfl ?_
  refine J.nil ?_
  refine EJ.thenN (hK1 ?_)
  refine CJ.seq fun _ hK2 _ => ?_
  refine CJ.seq fun _ hK3 _ => ?_
  refine CJ.region ?_
  refine J.p (PR.move rfl) rfl ?_
  refine J.p (PR.lenSlice u42 rfl rfl) rfl ?_
  refine J.p (PR.move rfl) rfl ?_
  refine J.p (PR.lenSlice u42 rfl rfl) rfl ?_
  refine J.p (PR.neq rfl rfl) rfl ?_
  refine J.nil ?_
  refine EJ.thenN (hK3 ?_)
  refine CJ.condD rfl (fun h10 => ?_) (fun h10 => ?_)
  ·
    refine CJ.seq fun _ hK4 _ => ?_
    refine CJ.region ?_
    refine J.p (PR.assign rfl) rfl ?_
    refine J.nil ?_
    refine EJ.thenN (hK4 ?_)
    refine CJ.ret ?_
    refine EJ.thenR ?_
    refine EJ.ret1 rfl (Res.tmp rfl) fun w hH => ?_
    exact ⟨rb (decide_eq_false (fun e => h10 (by rw [e]))).symm, hH⟩
  ·
    refine CJ.skip ?_
    refine EJ.thenN (hK2 ?_)
    refine CJ.seq fun _ hK5 _ => ?_
    refine CJ.seq fun _ hK6 _ => ?_
    refine CJ.region ?_
    refine J.p (PR.assign rfl) rfl ?_
    refine J.nil ?_
    refine EJ.thenN (hK6 ?_)
    refine CJ.block ?_
    refine CJ.loopU (σ := Nat) (fun (k : Nat) => [(5, .int .i64 (k : Int))]) (fun (k : Nat) => H) (fun (k : Nat) => L) (fun (k : Nat) => k ≤ xs.length ∧ ∀ j, j < k → fm xs j = fm ys j) (fun (k : Nat) => xs.length - k) 0 ⟨by omega, fun j hj => by omega⟩ ⟨rfl, trivial⟩ rfl rfl ?_
    rintro k hI _ hAg0
    have hk := hI.1
    refine CJ.seq fun _ hK7 _ => ?_
    refine CJ.seq fun _ hK8 _ => ?_
    refine CJ.region ?_
    refine J.p (PR.move rfl) rfl ?_
    refine J.p (PR.move rfl) rfl ?_
    refine J.p (PR.lenSlice u42 rfl rfl) rfl ?_
    refine J.p (PR.lss rfl rfl) rfl ?_
    refine J.nil ?_
    refine EJ.thenN (hK8 ?_)
    refine CJ.condD rfl (fun hc14 => ?_) (fun hc14 => ?_)
    ·
      refine CJ.skip ?_
      refine EJ.thenN (hK7 ?_)
      refine CJ.seq fun _ hK9 _ => ?_
      refine CJ.block ?_
      refine CJ.seq fun _ hK10 _ => ?_
      refine CJ.head [[], [], [0, 1], [2], [], [], [4, 5], [6]] (by kernel_rfl) ?_
      refine HJ.op (fun gh => PR.move rfl) ?_
      refine HJ.op (fun gh => PR.move rfl) ?_
      refine HJ.op (fun gh => PR.idx1 u42 sz32 rfl rfl rfl (by omega) hxs.sm) ?_
      obtain ⟨qe20, ce20, he20, le20, Fe20⟩ := hxs k (by omega)
      refine HJ.op (fun gh => PR.loadHagg (cs := [_]) rfl (one_cell he20) (hxs.sm (i := k) (by omega)) ag32) ?_
      refine HJ.op (fun gh => PR.move rfl) ?_
      refine HJ.op (fun gh => PR.move rfl) ?_
      refine HJ.op (fun gh => PR.idx1 u42 sz32 rfl rfl rfl (by omega) hys.sm) ?_
      obtain ⟨qe24, ce24, he24, le24, Fe24⟩ := hys k (by omega)
      refine HJ.op (fun gh => PR.loadHagg (cs := [_]) rfl (one_cell he24) (hys.sm (i := k) (by omega)) ag32) ?_
      refine HJ.close 8 1 foll0 (by kernel_rfl) rfl rfl fun gh => ?_
      refine J.conv (us' := (17, _) :: (18, _) :: (19, _) :: (20, _) :: (21, _) :: (22, _) :: (23, _) :: (24, _) :: _) (L' := _) rfl rfl ?_
      refine J.call fn11 rfl rfl fun w hH => (eqForm_c Fe20 Fe24 (hf k (by omega)) hH).mono ?_
      rintro _ w ⟨rfl, hH⟩
      refine ⟨_, rfl, fun a hF => J.of hF hH ?_⟩
      refine J.nil ?_
      refine EJ.still ?_
      refine JS.op (PR.not rfl) rfl ?_
      refine JS.nil ?_
      refine EJ.thenN (hK10 ?_)
      refine CJ.cond rfl (fun h26 => ?_) (fun h26 => ?_)
      ·
        refine CJ.seq fun _ hK11 _ => ?_
        refine CJ.region ?_
        refine J.p (PR.assign rfl) rfl ?_
        refine J.nil ?_
        refine EJ.thenN (hK11 ?_)
        refine CJ.ret ?_
        refine EJ.inR ?_
        refine EJ.thenR ?_
        refine EJ.thenR ?_
        refine EJ.inR ?_
        refine EJ.thenR ?_
        refine EJ.ret1 rfl (Res.tmp rfl) fun w hH => ?_
        exact ⟨rb (decide_eq_false (fun e => (by rw [e] at h26; simp at h26))).symm, hH⟩
      ·
        refine CJ.skip ?_
        refine EJ.inN ?_
        refine EJ.thenN (hK9 ?_)
        refine CJ.region ?_
        refine J.p (PR.move rfl) rfl ?_
        refine J.p (PR.add rfl rfl (by first | exact nw _ (by omega) | rfl)) rfl ?_
        refine J.p (PR.assign rfl) rfl ?_
        refine J.nil ?_
        refine EJ.thenN ?_
        exact hAg0 (k + 1) ⟨by omega, upto hI.2 (of_decide_eq_true (notf h26))⟩ (by omega) 18 rfl rfl ⟨rfl, trivial⟩ rfl rfl
    ·
      refine CJ.exit ?_
      refine EJ.thenE ?_
      refine EJ.thenE ?_
      refine EJ.inE ?_
      refine EJ.thenN (hK5 ?_)
      refine CJ.seq fun _ hK12 _ => ?_
      refine CJ.region ?_
      refine J.p (PR.assign rfl) rfl ?_
      refine J.nil ?_
      refine EJ.thenN (hK12 ?_)
      refine CJ.ret ?_
      refine EJ.ret1 rfl (Res.tmp rfl) fun w hH => ?_
      exact ⟨rb (decide_eq_true (forms_eq_of (by omega) (fun j hj => hI.2 j (by omega)))).symm, hH⟩
set_option maxRecDepth 10000 in
theorem eqAlgebra_c {B : World} {H0 H : HP} {L : List SA} {w : World} {qad qaf : Option Addr} {cad caf : Nat} {ad : List Int} {af : List (List Term)} {qbd qbf : Option Addr} {cbd cbf : Nat} {bd : List Int} {bf : List (List Term)}  (had : Ints H qad ad) (haf : Forms H qaf af) (hbd : Ints H qbd bd) (hbf : Forms H qbf bf) (hd : ad.length ≤ 1048576) (hn : af.length ≤ 9223372036854775807) (hf : ∀ i, i < af.length → (fm af i).length ≤ 9223372036854775807) (hH : Hp B H0 H L w) :
    Calls Tryd.prog 16 [.agg [.slice qad ad.length cad, .slice qaf af.length caf].toArray, .agg [.slice qbd bd.length cbd, .slice qbf bf.length cbf].toArray].toArray w fun e w' => e = .returned (.bool (decide (ad = bd) && decide (af = bf))) ∧ Hp B H0 H L w' := by
  refine CJ.enter Tryd.func16 rfl 17 rfl rfl [(0, .agg [.slice qad ad.length cad, .slice qaf af.length caf].toArray), (1, .agg [.slice qbd bd.length cbd, .slice qbf bf.length cbf].toArray)] rfl hH ?_
  clear hH
  refine CJ.seq fun _ hK1 _ => ?_
  refine CJ.region ?_
  refine J.box rfl rfl rfl fun g2 => ?_
  refine J.box rfl rfl rfl fun g3 => ?_
  refine J.p (PR.assign rfl) rfl ?_
  refine J.nil ?_
  refine EJ.thenN (hK1 ?_)
  refine CJ.seq fun _ hK2 _ => ?_
  refine CJ.seq fun _ hK3 _ => ?_
  refine CJ.region ?_
  refine J.p (PR.fldA u44 rfl sz22 rfl) rfl ?_
  refine J.p (PR.load rfl (.s .z) rfl pl22) rfl ?_
  refine J.p (PR.fldA u44 rfl sz22 rfl) rfl ?_
  refine J.p (PR.load rfl At.z rfl pl22) rfl ?_
  refine J.call fn10 rfl rfl fun w hH => (eqInt64S_c had hbd hd hH).mono ?_
  rintro _ w ⟨rfl, hH⟩
  refine ⟨_, rfl, fun a hF => J.of hF hH ?_⟩
  refine J.p (PR.not rfl) rfl ?_
  refine J.nil ?_
  refine EJ.thenN (hK3 ?_)
  refine CJ.cond rfl (fun h10 => ?_) (fun h10 => ?_)
  ·
    refine CJ.seq fun _ hK4 _ => ?_
    refine CJ.region ?_
    refine J.p (PR.assign rfl) rfl ?_
    refine J.nil ?_
    refine EJ.thenN (hK4 ?_)
    refine CJ.ret ?_
    refine EJ.thenR ?_
    refine EJ.ret1 rfl (Res.tmp rfl) fun w hH => ?_
    replace hH := hH.tail
    replace hH := hH.tail
    exact ⟨rb (by rw [nott h10]; rfl), hH⟩
  ·
    refine CJ.skip ?_
    refine EJ.thenN (hK2 ?_)
    refine CJ.seq fun _ hK5 _ => ?_
    refine CJ.seq fun _ hK6 _ => ?_
    refine CJ.region ?_
    refine J.p (PR.fldA u44 rfl sz42 rfl) rfl ?_
    refine J.p (PR.load rfl (.s .z) rfl pl42) rfl ?_
    refine J.p (PR.fldA u44 rfl sz42 rfl) rfl ?_
    refine J.p (PR.load rfl At.z rfl pl42) rfl ?_
    refine J.call fn31 rfl rfl fun w hH => (eqFormS_c haf hbf hn hf hH).mono ?_
    rintro _ w ⟨rfl, hH⟩
    refine ⟨_, rfl, fun a hF => J.of hF hH ?_⟩
    refine J.p (PR.not rfl) rfl ?_
    refine J.nil ?_
    refine EJ.thenN (hK6 ?_)
    refine CJ.cond rfl (fun h16 => ?_) (fun h16 => ?_)
    ·
      refine CJ.seq fun _ hK7 _ => ?_
      refine CJ.region ?_
      refine J.p (PR.assign rfl) rfl ?_
      refine J.nil ?_
      refine EJ.thenN (hK7 ?_)
      refine CJ.ret ?_
      refine EJ.thenR ?_
      refine EJ.ret1 rfl (Res.tmp rfl) fun w hH => ?_
      replace hH := hH.tail
      replace hH := hH.tail
      exact ⟨rb (by rw [nott h16, Bool.and_false]), hH⟩
    ·
      refine CJ.skip ?_
      refine EJ.thenN (hK5 ?_)
      refine CJ.seq fun _ hK8 _ => ?_
      refine CJ.region ?_
      refine J.p (PR.assign rfl) rfl ?_
      refine J.nil ?_
      refine EJ.thenN (hK8 ?_)
      refine CJ.ret ?_
      refine EJ.ret1 rfl (Res.tmp rfl) fun w hH => ?_
      replace hH := hH.tail
      replace hH := hH.tail
      exact ⟨rb (by rw [notf h10, notf h16]; rfl), hH⟩
end Go.Proofs.YtbjhllmcnfncdaaDoor.G
namespace Go.Proofs.YtbjhllmcnfncdaaDoor.G
open Go Go.RowKit
namespace Wm
theorem bz32 : ∀ w, (Instr.build 32 #[]).run Tryd.prog w = .ok (.agg [.slice none 0 0].toArray) w := fun _ => by kernel_rfl
end Wm
open Wm
def inDeg (ds : List Int) (n : Int) (t : Term) : Bool := decide (wsum ds t.mono ds.length = n)
def part (ds : List Int) (ts : List Term) (n : Int) : List Term := ts.filter (inDeg ds n)
theorem take_tm {ts : List Term} {k : Nat} (hk : k < ts.length) : ts.take (k + 1) = ts.take k ++ [tm ts k] := by
  rw [List.take_succ_eq_append_getElem hk]
  simp [tm, List.getD_eq_getElem?_getD, List.getElem?_eq_getElem hk]
end Go.Proofs.YtbjhllmcnfncdaaDoor.G
namespace Go.Proofs.YtbjhllmcnfncdaaDoor.G
open Go Go.RowKit
def ClT (B : World) (H0 H : HP) (g : Nat) (cap : Array Value) (p : Term → Bool) : Prop := ∀ (H' : HP) (L : List SA) (w : World) (x : Term), Le H H' → x.wf → Hp B H0 H' L w → Calls Tryd.prog g (#[] ++ [.agg x.c.toArray].toArray ++ cap) w fun e w' => e = .returned (.bool (p x)) ∧ Hp B H0 H' L w'
theorem ClT.le {B : World} {H0 H H' : HP} {g : Nat} {cap : Array Value} {p : Term → Bool} (h : ClT B H0 H g cap p) (hle : Le H H') : ClT B H0 H' g cap p := fun H2 L w x h2 => h H2 L w x (hle.trans h2)
def ClP (B : World) (H0 H : HP) (g : Nat) (cap : Array Value) (p : List Int → Bool) : Prop := ∀ (H' : HP) (L : List SA) (w : World) (x : List Int), Le H H' → x.length = 8 → Small x → Hp B H0 H' L w → Calls Tryd.prog g (#[] ++ [.agg (intsC x).toArray].toArray ++ cap) w fun e w' => e = .returned (.bool (p x)) ∧ Hp B H0 H' L w'
theorem ClP.le {B : World} {H0 H H' : HP} {g : Nat} {cap : Array Value} {p : List Int → Bool} (h : ClP B H0 H g cap p) (hle : Le H H') : ClP B H0 H' g cap p := fun H2 L w x h2 => h H2 L w x (hle.trans h2)
theorem tm_eq {xs : List Term} {j : Nat} (hj : j < xs.length) : xs[j] = tm xs j := by simp [tm, List.getD_eq_getElem?_getD, List.getElem?_eq_getElem hj]
end Go.Proofs.YtbjhllmcnfncdaaDoor.G
namespace Go.Proofs.YtbjhllmcnfncdaaDoor.G
open Go Go.RowKit
namespace Wo
theorem u30 : Tryd.prog.underlying 30 = some (TypeDesc.slice 66) := by kernel_rfl
theorem u66 : Tryd.prog.underlying 66 = some (TypeDesc.struct #[{ name := "Monomial", type := 64, offset := 0, embedded := false, tag := "", pkgPath := "", byteOffset := 0 }, { name := "Factor", type := 2, offset := 8, embedded := false, tag := "", pkgPath := "", byteOffset := 8 }]) := by kernel_rfl
theorem sz66 : Size Tryd.prog 66 9 := by unfold Size; kernel_rfl
theorem ze66 : Zero Tryd.prog 66 [.int .u8 0, .int .u8 0, .int .u8 0, .int .u8 0, .int .u8 0, .int .u8 0, .int .u8 0, .int .u8 0, .int .i64 0] := by unfold Zero; kernel_rfl
theorem ag66 : Agg Tryd.prog 66 9 := ⟨_, u66, rfl, by kernel_rfl⟩
end Wo
open Wo
def keptK (ts : List Term) (p : Term → Bool) (j : Nat) : List Term := (ts.take j).filter fun t => !p t
theorem keptK_yes {ts : List Term} {p : Term → Bool} {j : Nat} (hj : j < ts.length) (h : p (tm ts j) = false) : keptK ts p (j + 1) = keptK ts p j ++ [tm ts j] := by
  unfold keptK
  rw [take_tm hj, List.filter_append]
  simp [h]
theorem keptK_no {ts : List Term} {p : Term → Bool} {j : Nat} (hj : j < ts.length) (h : p (tm ts j) = true) : keptK ts p (j + 1) = keptK ts p j := by
  unfold keptK
  rw [take_tm hj, List.filter_append]
  simp [h]
theorem keptK_len (ts : List Term) (p : Term → Bool) (j : Nat) : (keptK ts p j).length ≤ j := by
  unfold keptK
  have h1 := List.length_filter_le (fun t => !p t) (ts.take j)
  have h2 := List.length_take_le j ts
  omega
structure Dl (ts : List Term) (p : Term → Bool) (cs cur : List Value) (j : Nat) : Prop where
  len : cur.length = cs.length
  front : cur.take ((keptK ts p j).length * 9) = tsC (keptK ts p j)
  back : cur.drop (j * 9) = cs.drop (j * 9)
theorem Dl.at {ts : List Term} {p : Term → Bool} {cs cur : List Value} {j : Nat} (h : Dl ts p cs cur j) (hw : Wfs ts) (hj : j < ts.length) (hcs : cs.take (ts.length * 9) = tsC ts) : ∀ x v, (tm ts j).c[x]? = some v → cur[j * 9 + x]? = some v := by
  intro x v hx
  have hx9 : x < 9 := by rw [← Term.c_length (hw.at hj)]; exact (List.getElem?_eq_some_iff.1 hx).1
  have h1 := tsC_get hw hj hx
  rw [← hcs, List.getElem?_take, if_pos (by omega)] at h1
  have h2 := congrArg (·[x]?) h.back
  simp only [List.getElem?_drop] at h2
  rw [h2]
  exact h1
theorem Dl.skip {ts : List Term} {p : Term → Bool} {cs cur : List Value} {j : Nat} (h : Dl ts p cs cur j) (hj : j < ts.length) (hp : p (tm ts j) = true) : Dl ts p cs cur (j + 1) := by
  refine ⟨h.len, by rw [keptK_no hj hp]; exact h.front, ?_⟩
  have := congrArg (List.drop 9) h.back
  simpa [List.drop_drop, show (j + 1) * 9 = j * 9 + 9 by omega] using this
theorem Dl.put {ts : List Term} {p : Term → Bool} {cs cur : List Value} {j : Nat} (h : Dl ts p cs cur j) (hw : Wfs ts) (hj : j < ts.length) (hl : ts.length * 9 ≤ cs.length) (hp : p (tm ts j) = false) :
    Dl ts p cs (cur.take ((keptK ts p j).length * 9) ++ (tm ts j).c ++ cur.drop ((keptK ts p j).length * 9 + (tm ts j).c.length)) (j + 1) := by
  have h9 := Term.c_length (hw.at hj)
  have hk := keptK_len ts p j
  have hcl := h.len
  have hfl : (cur.take ((keptK ts p j).length * 9)).length = (keptK ts p j).length * 9 := by simp; omega
  refine ⟨by simp only [List.length_append, List.length_take, List.length_drop]; omega, ?_, ?_⟩
  · rw [keptK_yes hj hp, List.length_append, List.length_singleton, tsC_append]
    have e1 : tsC [tm ts j] = (tm ts j).c := by simp [tsC]
    rw [e1, ← h.front, List.take_append_of_le_length (by simp only [List.length_append]; omega), List.take_of_length_le (by simp only [List.length_append]; omega)]
  · have h2 := congrArg (List.drop 9) h.back
    simp only [List.drop_drop] at h2
    rw [h9, show (j + 1) * 9 = ((keptK ts p j).length * 9 + 9) + (j * 9 + 9 - ((keptK ts p j).length * 9 + 9)) by omega, ← List.drop_drop, List.drop_append_of_le_length (by simp only [List.length_append]; omega), List.drop_of_length_le (l := cur.take ((keptK ts p j).length * 9) ++ (tm ts j).c) (by simp only [List.length_append]; omega), List.nil_append, List.drop_drop]
    rw [show (keptK ts p j).length * 9 + 9 + (j * 9 + 9 - ((keptK ts p j).length * 9 + 9)) = j * 9 + 9 by omega]
    exact h2
end Go.Proofs.YtbjhllmcnfncdaaDoor.G
namespace Go.Proofs.YtbjhllmcnfncdaaDoor.G
open Go Go.RowKit
theorem Hp.weaken {B : World} {H0 H H2 : HP} {L : List SA} {w : World} (h : Hp B H0 H2 L w) (hle : Le H H2) (ho : ∀ b, b < B.heap.size → H b = H0 b) (h1 : Le H0 H) : Hp B H0 H L w :=
  ⟨h.below, fun b o hb => h.agree b o (hle b o hb), ho, h1, fun A hA => ⟨(h.objs A hA).1, fun b hb => ⟨((h.objs A hA).2 b hb).1, ((h.objs A hA).2 b hb).2.1, by
    cases e : H b with
    | none => rfl
    | some o => have := hle b o e; rw [((h.objs A hA).2 b hb).2.2] at this; cases this⟩⟩, h.sep⟩
end Go.Proofs.YtbjhllmcnfncdaaDoor.G
namespace Go.Proofs.YtbjhllmcnfncdaaDoor.G
open Go Go.RowKit
abbrev Pw := List Int
abbrev Sm := List (Pw × Int)
theorem tmod_p (x : Int) : ∃ r, x.tmod 10007 = x - 10007 * r := ⟨x.tdiv 10007, by have := Int.tmod_add_mul_tdiv x 10007; omega⟩
theorem tmod_bd (x : Int) : -10007 < x.tmod 10007 ∧ x.tmod 10007 < 10007 := by
  rcases Int.le_total 0 x with h | h
  · rw [Int.tmod_eq_emod_of_nonneg h]
    omega
  · have e : x = -(-x) := by omega
    rw [e, Int.neg_tmod, Int.tmod_eq_emod_of_nonneg (by omega)]
    omega
def fld (x : Int) : Int := (x.tmod 10007 + 10007).tmod 10007
theorem fld_eq (x : Int) : fld x = x % 10007 := by
  unfold fld
  obtain ⟨r, hr⟩ := tmod_p x
  have hb := tmod_bd x
  rw [Int.tmod_eq_emod_of_nonneg (by omega)]
  omega
theorem fld_bd (x : Int) : 0 ≤ fld x ∧ fld x ≤ 10006 := by rw [fld_eq]; omega
theorem fld_tmod (a x : Int) : fld (a + x.tmod 10007) = fld (a + x) := by
  rw [fld_eq, fld_eq]
  obtain ⟨r, hr⟩ := tmod_p x
  omega
theorem fld_fld (a x : Int) : fld (a + fld x) = fld (a + x) := by rw [fld_eq, fld_eq, fld_eq]; omega
theorem first_of (f : Nat → Bool) : ∀ n : Nat, (∀ j, j < n → f j = false) ∨ ∃ k, k < n ∧ f k = true ∧ ∀ j, j < k → f j = false
  | 0 => .inl fun j hj => by omega
  | n + 1 => by
    rcases first_of f n with h | ⟨k, h1, h2, h3⟩
    · cases hb : f n with
      | true => exact .inr ⟨n, by omega, hb, h⟩
      | false => exact .inl (upto h hb)
    · exact .inr ⟨k, by omega, h2, h3⟩
theorem before_iff {p q : Pw} : before p q = true ↔ ∃ k, k < 8 ∧ (∀ j, j < k → p.getD j 0 = q.getD j 0) ∧ q.getD k 0 < p.getD k 0 := by
  constructor
  · intro h
    rcases first_of (fun j => decide (p.getD j 0 ≠ q.getD j 0)) 8 with h1 | ⟨k, h1, h2, h3⟩
    · rw [before_miss fun j hj => by simpa using h1 j hj] at h
      cases h
    · have e : ∀ j, j < k → p.getD j 0 = q.getD j 0 := fun j hj => by simpa using h3 j hj
      rw [before_hit h1 e (by simpa using h2)] at h
      exact ⟨k, h1, e, by simpa using h⟩
  · rintro ⟨k, h1, h2, h3⟩
    rw [before_hit h1 h2 (by omega)]
    simpa using h3
theorem before_irr (p : Pw) : before p p = false := before_miss fun _ _ => rfl
theorem before_tr {p q r : Pw} (h1 : before p q = true) (h2 : before q r = true) : before p r = true := by
  obtain ⟨k, a1, a2, a3⟩ := before_iff.1 h1
  obtain ⟨m, b1, b2, b3⟩ := before_iff.1 h2
  refine before_iff.2 ?_
  rcases Nat.lt_trichotomy k m with h | h | h
  · exact ⟨k, a1, fun j hj => by rw [a2 j hj, b2 j (by omega)], by rw [← b2 k h]; exact a3⟩
  · subst h
    exact ⟨k, a1, fun j hj => by rw [a2 j hj, b2 j hj], by omega⟩
  · exact ⟨m, b1, fun j hj => by rw [a2 j (by omega), b2 j hj], by rw [a2 m h]; exact b3⟩
theorem before_ne {p q : Pw} (h : before p q = true) : p ≠ q := fun e => by subst e; rw [before_irr] at h; cases h
theorem before_tot {p q : Pw} (hp : p.length = 8) (hq : q.length = 8) (h1 : before p q = false) (h2 : before q p = false) : p = q := by
  refine list_eq_of (by omega) fun j hj => ?_
  rcases first_of (fun j => decide (p.getD j 0 ≠ q.getD j 0)) 8 with h | ⟨k, a1, a2, a3⟩
  · simpa using h j (by omega)
  · have e : ∀ j, j < k → p.getD j 0 = q.getD j 0 := fun j hj => by simpa using a3 j hj
    have hne : p.getD k 0 ≠ q.getD k 0 := by simpa using a2
    rw [before_hit a1 e hne] at h1
    rw [before_hit a1 (fun j hj => (e j hj).symm) (Ne.symm hne)] at h2
    have a := of_decide_eq_false h1
    have b := of_decide_eq_false h2
    omega
structure Pok (M : Int) (p : Pw) : Prop where
  len : p.length = 8
  bd : ∀ j, 0 ≤ p.getD j 0 ∧ p.getD j 0 ≤ M
theorem Pok.small {M : Int} {p : Pw} (h : Pok M p) (hM : M ≤ 1000000) : Small p := fun j => by have := h.bd j; omega
theorem Pok.mono {M M' : Int} {p : Pw} (h : Pok M p) (hM : M ≤ M') : Pok M' p := ⟨h.len, fun j => by have := h.bd j; omega⟩
structure Sok (M : Int) (s : Sm) : Prop where
  srt : s.Pairwise fun x y => before x.1 y.1 = true
  key : ∀ x ∈ s, Pok M x.1
  val : ∀ x ∈ s, 1 ≤ x.2 ∧ x.2 ≤ 10006
theorem Sok.nil {M : Int} : Sok M [] := ⟨List.Pairwise.nil, fun _ h => by simp at h, fun _ h => by simp at h⟩
theorem Sok.tail {M : Int} {x : Pw × Int} {s : Sm} (h : Sok M (x :: s)) : Sok M s := ⟨(List.pairwise_cons.1 h.srt).2, fun y hy => h.key y (by simp [hy]), fun y hy => h.val y (by simp [hy])⟩
theorem Sok.mono {M M' : Int} {s : Sm} (h : Sok M s) (hM : M ≤ M') : Sok M' s := ⟨h.srt, fun x hx => (h.key x hx).mono hM, h.val⟩
theorem Sok.nodup {M : Int} {s : Sm} (h : Sok M s) : (s.map (·.1)).Nodup := by
  rw [List.Nodup, List.pairwise_map]
  exact h.srt.imp fun h => before_ne h
def cf : Sm → Pw → Int
  | [], _ => 0
  | x :: s, p => if x.1 = p then x.2 else cf s p
theorem look_cf (s : Sm) (p : Pw) : (look s p).elim (Value.int .i64 0) (Value.int .i64) = .int .i64 (cf s p) := by
  induction s with
  | nil => rfl
  | cons x s ih =>
    unfold look at ih ⊢
    rw [List.find?_cons]
    by_cases e : x.1 = p
    · rw [decide_eq_true e]
      simp [cf, e]
    · rw [decide_eq_false e]
      simp only [cf, if_neg e]
      exact ih
theorem cf_none {s : Sm} {p : Pw} (h : ∀ x ∈ s, x.1 ≠ p) : cf s p = 0 := by
  induction s with
  | nil => rfl
  | cons x s ih =>
    simp only [cf]
    rw [if_neg (h x (by simp)), ih fun y hy => h y (by simp [hy])]
theorem cf_bd {M : Int} {s : Sm} (h : Sok M s) (p : Pw) : 0 ≤ cf s p ∧ cf s p ≤ 10006 := by
  induction s with
  | nil => simp [cf]
  | cons x s ih =>
    simp only [cf]
    have := h.val x (by simp)
    split
    · omega
    · exact ih h.tail
theorem Sok.ext {M N : Int} : ∀ {s t : Sm}, Sok M s → Sok N t → (∀ p, cf s p = cf t p) → s = t
  | [], [], _, _, _ => rfl
  | [], y :: t, _, ht, h => by
    have h1 := h y.1
    have h2 := ht.val y (by simp)
    simp [cf] at h1
    omega
  | x :: s, [], hs, _, h => by
    have h1 := h x.1
    have h2 := hs.val x (by simp)
    simp [cf] at h1
    omega
  | x :: s, y :: t, hs, ht, h => by
    have sx := (List.pairwise_cons.1 hs.srt).1
    have sy := (List.pairwise_cons.1 ht.srt).1
    have vx := hs.val x (by simp)
    have vy := ht.val y (by simp)
    have hxy : x.1 = y.1 := by
      refine before_tot (hs.key x (by simp)).len (ht.key y (by simp)).len ?_ ?_
      · cases hb : before x.1 y.1 with
        | false => rfl
        | true =>
          have h1 := h x.1
          rw [cf_none (s := y :: t) (fun z hz => by
            rcases List.mem_cons.1 hz with rfl | hz
            · exact (before_ne hb).symm
            · exact (before_ne (before_tr hb (sy z hz))).symm)] at h1
          simp [cf] at h1
          omega
      · cases hb : before y.1 x.1 with
        | false => rfl
        | true =>
          have h1 := h y.1
          rw [cf_none (s := x :: s) (fun z hz => by
            rcases List.mem_cons.1 hz with rfl | hz
            · exact (before_ne hb).symm
            · exact (before_ne (before_tr hb (sx z hz))).symm)] at h1
          simp [cf] at h1
          omega
    have h2 : x.2 = y.2 := by
      have h1 := h x.1
      simp only [cf, if_true] at h1
      rwa [if_pos hxy.symm] at h1
    have e : x = y := by cases x; cases y; simp_all
    subst e
    rw [Sok.ext hs.tail ht.tail fun p => ?_]
    by_cases hp : x.1 = p
    · subst hp
      rw [cf_none fun z hz => (before_ne (sx z hz)).symm, cf_none fun z hz => (before_ne (sy z hz)).symm]
    · have h1 := h p
      simp only [cf] at h1
      rwa [if_neg hp, if_neg hp] at h1
def addS : Sm → Pw → Int → Sm
  | [], p, k => if fld k = 0 then [] else [(p, fld k)]
  | x :: s, p, k => if p = x.1 then (if fld (x.2 + k) = 0 then s else (p, fld (x.2 + k)) :: s)
    else if before p x.1 then (if fld k = 0 then x :: s else (p, fld k) :: x :: s) else x :: addS s p k
theorem addS_mem {p : Pw} {k : Int} : ∀ {s : Sm} {y : Pw × Int}, y ∈ addS s p k → y.1 = p ∨ y ∈ s
  | [], y, h => by
    simp only [addS] at h
    split at h
    · simp at h
    · simp at h; exact .inl (by rw [h])
  | x :: s, y, h => by
    simp only [addS] at h
    split at h
    · split at h
      · exact .inr (by simp [h])
      · rcases List.mem_cons.1 h with h | h
        · exact .inl (by rw [h])
        · exact .inr (by simp [h])
    · split at h
      · split at h
        · exact .inr h
        · rcases List.mem_cons.1 h with h | h
          · exact .inl (by rw [h])
          · exact .inr h
      · rcases List.mem_cons.1 h with h | h
        · exact .inr (by simp [h])
        · rcases addS_mem h with h | h
          · exact .inl h
          · exact .inr (by simp [h])
theorem Sok.add {M : Int} {p : Pw} (hp : Pok M p) (k : Int) : ∀ {s : Sm}, Sok M s → Sok M (addS s p k)
  | [], _ => by
    simp only [addS]
    split
    · exact Sok.nil
    · have := fld_bd k
      exact ⟨by simp, fun x hx => by simp at hx; rw [hx]; exact hp, fun x hx => by simp at hx; rw [hx]; simp; omega⟩
  | x :: s, h => by
    have sx := (List.pairwise_cons.1 h.srt).1
    simp only [addS]
    split
    · rename_i e
      split
      · exact h.tail
      · have := fld_bd (x.2 + k)
        refine ⟨List.pairwise_cons.2 ⟨fun y hy => by rw [e]; exact sx y hy, h.tail.srt⟩, fun y hy => ?_, fun y hy => ?_⟩
        · rcases List.mem_cons.1 hy with rfl | hy
          · exact hp
          · exact h.tail.key y hy
        · rcases List.mem_cons.1 hy with rfl | hy
          · simp; omega
          · exact h.tail.val y hy
    · rename_i e
      split
      · rename_i hb
        split
        · exact h
        · have := fld_bd k
          refine ⟨List.pairwise_cons.2 ⟨fun y hy => ?_, h.srt⟩, fun y hy => ?_, fun y hy => ?_⟩
          · rcases List.mem_cons.1 hy with rfl | hy
            · exact hb
            · exact before_tr hb (sx y hy)
          · rcases List.mem_cons.1 hy with rfl | hy
            · exact hp
            · exact h.key y hy
          · rcases List.mem_cons.1 hy with rfl | hy
            · simp; omega
            · exact h.val y hy
      · rename_i hb
        have hb' : before x.1 p = true := by
          cases hc : before x.1 p with
          | true => rfl
          | false => exact absurd (before_tot hp.len (h.key x (by simp)).len (by simpa using hb) hc) e
        have ih := Sok.add hp k h.tail
        refine ⟨List.pairwise_cons.2 ⟨fun y hy => ?_, ih.srt⟩, fun y hy => ?_, fun y hy => ?_⟩
        · rcases addS_mem hy with hy | hy
          · rw [hy]; exact hb'
          · exact sx y hy
        · rcases List.mem_cons.1 hy with rfl | hy
          · exact h.key _ (by simp)
          · exact ih.key y hy
        · rcases List.mem_cons.1 hy with rfl | hy
          · exact h.val _ (by simp)
          · exact ih.val y hy
theorem cf_add {M : Int} {p : Pw} (k : Int) (q : Pw) : ∀ {s : Sm}, Sok M s → cf (addS s p k) q = if p = q then fld (cf s p + k) else cf s q
  | [], _ => by
    simp only [addS, cf]
    rw [Int.zero_add]
    by_cases e : p = q
    · rw [if_pos e]
      split
      · rename_i h; rw [h]; rfl
      · simp [cf, e]
    · rw [if_neg e]
      split
      · rfl
      · simp [cf, e]
  | x :: s, h => by
    have sx := (List.pairwise_cons.1 h.srt).1
    have nx : ∀ r, r = x.1 → cf s r = 0 := fun r hr => cf_none fun z hz => by rw [hr]; exact (before_ne (sx z hz)).symm
    simp only [addS]
    by_cases e : p = x.1
    · rw [if_pos e]
      have e1 : cf (x :: s) p = x.2 := by simp [cf, e]
      rw [e1]
      by_cases e2 : p = q
      · rw [if_pos e2]
        split
        · rename_i hz
          rw [hz, nx q (by rw [← e2, e])]
        · simp [cf, e2]
      · rw [if_neg e2]
        have e3 : cf (x :: s) q = cf s q := by simp only [cf]; rw [if_neg (by rw [← e]; exact e2)]
        rw [e3]
        split
        · rfl
        · simp [cf, e2]
    · rw [if_neg e]
      have e1 : cf (x :: s) p = cf s p := by simp only [cf]; rw [if_neg (Ne.symm e)]
      split
      · rename_i hb
        have np : cf s p = 0 := cf_none fun z hz => (before_ne (before_tr hb (sx z hz))).symm
        rw [e1, np, Int.zero_add]
        by_cases e2 : p = q
        · rw [if_pos e2]
          split
          · rename_i hz
            rw [hz, ← e2, e1, np]
          · simp [cf, e2]
        · rw [if_neg e2]
          split
          · rfl
          · simp only [cf]; rw [if_neg e2]
      · simp only [cf]
        rw [cf_add k q h.tail, if_neg (Ne.symm e)]
        by_cases e2 : p = q
        · rw [if_pos e2, if_neg (by rw [← e2]; exact Ne.symm e), if_pos e2]
        · rw [if_neg e2, if_neg e2]
theorem addS_congr {k k' : Int} (h : ∀ a, fld (a + k) = fld (a + k')) (p : Pw) : ∀ s : Sm, addS s p k = addS s p k'
  | [] => by
    have h0 := h 0
    rw [Int.zero_add, Int.zero_add] at h0
    simp only [addS, h0]
  | x :: s => by
    have h0 := h 0
    rw [Int.zero_add, Int.zero_add] at h0
    simp only [addS, h0, h x.2, addS_congr h p s]
end Go.Proofs.YtbjhllmcnfncdaaDoor.G
namespace Go.Proofs.YtbjhllmcnfncdaaDoor.G
open Go Go.RowKit
def acc (s : Sm) (l : Sm) : Sm := l.foldl (fun a x => addS a x.1 x.2) s
theorem acc_nil (s : Sm) : acc s [] = s := rfl
theorem acc_cons (s : Sm) (x : Pw × Int) (l : Sm) : acc s (x :: l) = acc (addS s x.1 x.2) l := rfl
theorem acc_app (s l m : Sm) : acc s (l ++ m) = acc (acc s l) m := by unfold acc; rw [List.foldl_append]
theorem acc_one (s l : Sm) (x : Pw × Int) : acc s (l ++ [x]) = addS (acc s l) x.1 x.2 := by rw [acc_app]; rfl
theorem Sok.acc {M : Int} : ∀ {l s : Sm}, Sok M s → (∀ x ∈ l, Pok M x.1) → Sok M (G.acc s l)
  | [], _, h, _ => h
  | x :: l, s, h, hl => by
    rw [acc_cons]
    exact Sok.acc (h.add (hl x (by simp)) x.2) fun y hy => hl y (by simp [hy])
def tot_ : Sm → Pw → Int
  | [], _ => 0
  | x :: l, p => (if x.1 = p then x.2 else 0) + tot_ l p
theorem tot_perm {l m : Sm} (h : l.Perm m) (p : Pw) : tot_ l p = tot_ m p := by
  induction h with
  | nil => rfl
  | cons x _ ih => simp only [tot_, ih]
  | swap x y l => simp only [tot_]; omega
  | trans _ _ h1 h2 => rw [h1, h2]
theorem cf_acc {M : Int} (p : Pw) : ∀ {l s : Sm}, Sok M s → (∀ x ∈ l, Pok M x.1) → cf (acc s l) p = fld (cf s p + tot_ l p)
  | [], s, h, _ => by
    have := cf_bd h p
    simp only [acc_nil, tot_]
    rw [fld_eq]
    omega
  | x :: l, s, h, hl => by
    rw [acc_cons, cf_acc p (h.add (hl x (by simp)) x.2) fun y hy => hl y (by simp [hy]), cf_add x.2 p h]
    simp only [tot_]
    by_cases e : x.1 = p
    · rw [if_pos e, if_pos e, e]
      simp only [fld_eq]
      omega
    · rw [if_neg e, if_neg e, Int.zero_add]
theorem acc_perm {M : Int} {s l m : Sm} (h : Sok M s) (hl : ∀ x ∈ l, Pok M x.1) (hp : l.Perm m) : acc s l = acc s m :=
  Sok.ext (h.acc hl) (h.acc fun x hx => hl x (hp.mem_iff.2 hx)) fun p => by rw [cf_acc p h hl, cf_acc p h fun x hx => hl x (hp.mem_iff.2 hx), tot_perm hp]
theorem acc_congr {α : Type} {f g : α → Pw × Int} : ∀ {l : List α} (s : Sm), (∀ x ∈ l, (f x).1 = (g x).1 ∧ ∀ a, fld (a + (f x).2) = fld (a + (g x).2)) → acc s (l.map f) = acc s (l.map g)
  | [], _, _ => rfl
  | x :: l, s, h => by
    obtain ⟨h1, h2⟩ := h x (by simp)
    simp only [List.map_cons, acc_cons]
    rw [h1, addS_congr h2, acc_congr _ fun y hy => h y (by simp [hy])]
theorem filt_ne {s : Sm} {p : Pw} (h : ∀ x ∈ s, x.1 ≠ p) : (s.filter fun x => decide (x.1 ≠ p)) = s := by
  rw [List.filter_eq_self]
  intro x hx
  simpa using h x hx
theorem put_add {M : Int} {p : Pw} (hp : Pok M p) (k : Int) : ∀ {s : Sm}, Sok M s → fld (cf s p + k) ≠ 0 → (putM s p (fld (cf s p + k))).Perm (addS s p k)
  | [], _, hz => by
    simp only [cf, Int.zero_add] at hz ⊢
    simp only [addS]
    rw [if_neg hz]
    exact List.Perm.refl _
  | x :: s, h, hz => by
    have sx := (List.pairwise_cons.1 h.srt).1
    simp only [addS]
    by_cases e : p = x.1
    · have e1 : cf (x :: s) p = x.2 := by simp [cf, e]
      rw [e1] at hz ⊢
      rw [if_pos e, if_neg hz]
      unfold putM
      rw [List.filter_cons, if_neg (by simp [e]), filt_ne fun z hz => by rw [e]; exact (before_ne (sx z hz)).symm]
    · have e1 : cf (x :: s) p = cf s p := by simp only [cf]; rw [if_neg (Ne.symm e)]
      rw [e1] at hz ⊢
      rw [if_neg e]
      split
      · rename_i hb
        have np : ∀ z ∈ s, z.1 ≠ p := fun z hz => (before_ne (before_tr hb (sx z hz))).symm
        rw [cf_none np, Int.zero_add] at hz ⊢
        rw [if_neg hz]
        unfold putM
        rw [filt_ne fun z hz => by
          rcases List.mem_cons.1 hz with rfl | hz
          · exact Ne.symm e
          · exact np z hz]
      · have ih := put_add hp k h.tail hz
        unfold putM at ih ⊢
        rw [List.filter_cons, if_pos (by simpa using Ne.symm e)]
        exact (List.Perm.swap _ _ _).trans (ih.cons x)
theorem del_add {M : Int} {p : Pw} (hp : Pok M p) (k : Int) : ∀ {s : Sm}, Sok M s → fld (cf s p + k) = 0 → (delM s p).Perm (addS s p k)
  | [], _, hz => by
    simp only [cf, Int.zero_add] at hz
    simp only [addS]
    rw [if_pos hz]
    exact List.Perm.refl _
  | x :: s, h, hz => by
    have sx := (List.pairwise_cons.1 h.srt).1
    simp only [addS]
    by_cases e : p = x.1
    · have e1 : cf (x :: s) p = x.2 := by simp [cf, e]
      rw [e1] at hz
      rw [if_pos e, if_pos hz]
      unfold delM
      rw [List.filter_cons, if_neg (by simp [e]), filt_ne fun z hz => by rw [e]; exact (before_ne (sx z hz)).symm]
    · have e1 : cf (x :: s) p = cf s p := by simp only [cf]; rw [if_neg (Ne.symm e)]
      rw [e1] at hz
      rw [if_neg e]
      split
      · rename_i hb
        have np : ∀ z ∈ s, z.1 ≠ p := fun z hz => (before_ne (before_tr hb (sx z hz))).symm
        rw [cf_none np, Int.zero_add] at hz
        rw [if_pos hz]
        unfold delM
        rw [filt_ne fun z hz => by
          rcases List.mem_cons.1 hz with rfl | hz
          · exact Ne.symm e
          · exact np z hz]
      · have ih := del_add hp k h.tail hz
        unfold delM at ih ⊢
        rw [List.filter_cons, if_pos (by simpa using Ne.symm e)]
        exact ih.cons x
def addp (p q : Pw) : Pw := (List.range 8).map fun i => p.getD i 0 + q.getD i 0
@[simp] theorem addp_len (p q : Pw) : (addp p q).length = 8 := by simp [addp]
theorem getD_ge {p : Pw} {j : Nat} (h : p.length ≤ j) : p.getD j 0 = 0 := by rw [List.getD_eq_getElem?_getD, List.getElem?_eq_none h]; rfl
theorem addp_get {p q : Pw} (hp : p.length = 8) (hq : q.length = 8) (j : Nat) : (addp p q).getD j 0 = p.getD j 0 + q.getD j 0 := by
  rcases Nat.lt_or_ge j 8 with h | h
  · simp [addp, List.getD_eq_getElem?_getD, h]
  · rw [getD_ge (by simp; omega), getD_ge (by omega), getD_ge (by omega)]
    rfl
theorem Pok.add {M N : Int} {p q : Pw} (hp : Pok M p) (hq : Pok N q) : Pok (M + N) (addp p q) := ⟨by simp, fun j => by
  rw [addp_get hp.len hq.len]
  have := hp.bd j
  have := hq.bd j
  omega⟩
def oin (ds p : Pw) (i : Nat) : Nat → Int
  | 0 => 0
  | m + 1 => oin ds p i m + (ds.getD (i + 1 + m) 0).tmod 2 * p.getD (i + 1 + m) 0
def oddTo (ds p q : Pw) : Nat → Int
  | 0 => 0
  | i + 1 => oddTo ds p q i + (if (ds.getD i 0).tmod 2 ≠ 0 ∧ 0 < q.getD i 0 then oin ds p i (ds.length - (i + 1)) else 0)
def hitAt (ds p q : Pw) (i : Nat) : Bool := decide ((ds.getD i 0).tmod 2 ≠ 0) && (decide (0 < p.getD i 0) && decide (0 < q.getD i 0))
def hits (ds p q : Pw) : Bool := (List.range ds.length).any (hitAt ds p q)
def sgn (ds p q : Pw) : Int := if hits ds p q then 0 else if (oddTo ds p q ds.length).tmod 2 = 1 then -1 else 1
theorem hits_yes {ds p q : Pw} {i : Nat} (hi : i < ds.length) (h : hitAt ds p q i = true) : hits ds p q = true := List.any_eq_true.2 ⟨i, List.mem_range.2 hi, h⟩
theorem hits_no {ds p q : Pw} (h : ∀ i, i < ds.length → hitAt ds p q i = false) : hits ds p q = false := by
  unfold hits
  rw [List.any_eq_false]
  intro i hi
  rw [h i (List.mem_range.1 hi)]
  simp
theorem sgn_cases (ds p q : Pw) : sgn ds p q = 0 ∨ sgn ds p q = 1 ∨ sgn ds p q = -1 := by
  unfold sgn
  split
  · exact .inl rfl
  · split
    · exact .inr (.inr rfl)
    · exact .inr (.inl rfl)
theorem deg2 {ds : Pw} (hd : ∀ j, 0 ≤ ds.getD j 0 ∧ ds.getD j 0 ≤ 12) (j : Nat) : (ds.getD j 0).tmod 2 = 0 ∨ (ds.getD j 0).tmod 2 = 1 := by
  have := hd j
  rw [Int.tmod_eq_emod_of_nonneg this.1]
  omega
theorem oin_bd {ds p : Pw} {M : Int} (hd : ∀ j, 0 ≤ ds.getD j 0 ∧ ds.getD j 0 ≤ 12) (hp : ∀ j, 0 ≤ p.getD j 0 ∧ p.getD j 0 ≤ M) (i : Nat) : ∀ m : Nat, 0 ≤ oin ds p i m ∧ oin ds p i m ≤ m * M
  | 0 => by simp [oin]
  | m + 1 => by
    have h1 := oin_bd hd hp i m
    have h2 := hp (i + 1 + m)
    have e : ((m + 1 : Nat) : Int) * M = m * M + M := by rw [Int.natCast_add, Int.add_mul]; simp
    rw [e]
    simp only [oin]
    rcases deg2 hd (i + 1 + m) with h | h
    · rw [h, Int.zero_mul]; omega
    · rw [h, Int.one_mul]; omega
theorem oddTo_bd {ds p q : Pw} {M : Int} (hn : ds.length ≤ 8) (hd : ∀ j, 0 ≤ ds.getD j 0 ∧ ds.getD j 0 ≤ 12) (hp : ∀ j, 0 ≤ p.getD j 0 ∧ p.getD j 0 ≤ M) : ∀ i : Nat, 0 ≤ oddTo ds p q i ∧ oddTo ds p q i ≤ i * (8 * M)
  | 0 => by simp [oddTo]
  | i + 1 => by
    have h1 := oddTo_bd hn hd hp (q := q) i
    have h2 := oin_bd hd hp i (ds.length - (i + 1))
    have hM := hp 0
    have h3 : ((ds.length - (i + 1) : Nat) : Int) * M ≤ 8 * M := Int.mul_le_mul_of_nonneg_right (by omega) (by omega)
    have e : ((i + 1 : Nat) : Int) * (8 * M) = i * (8 * M) + 8 * M := by rw [Int.natCast_add, Int.add_mul]; simp
    rw [e]
    simp only [oddTo]
    split <;> omega
def mul1 (ds : Pw) (x : Pw × Int) (t : Sm) : Sm := t.flatMap fun y => if sgn ds x.1 y.1 = 0 then [] else [(addp x.1 y.1, (sgn ds x.1 y.1 * x.2 * y.2).tmod 10007)]
def mulL (ds : Pw) (s t : Sm) : Sm := s.flatMap fun x => mul1 ds x t
def timesS (ds : Pw) (s t : Sm) : Sm := acc [] (mulL ds s t)
theorem mul1_mem {ds : Pw} {x : Pw × Int} {t : Sm} {z : Pw × Int} (h : z ∈ mul1 ds x t) : ∃ y ∈ t, sgn ds x.1 y.1 ≠ 0 ∧ z.1 = addp x.1 y.1 := by
  obtain ⟨y, hy, hz⟩ := List.mem_flatMap.1 h
  split at hz
  · simp at hz
  · rename_i hs
    simp at hz
    exact ⟨y, hy, hs, by rw [hz]⟩
theorem mulL_mem {ds : Pw} {s t : Sm} {z : Pw × Int} (h : z ∈ mulL ds s t) : ∃ x ∈ s, ∃ y ∈ t, sgn ds x.1 y.1 ≠ 0 ∧ z.1 = addp x.1 y.1 := by
  obtain ⟨x, hx, hz⟩ := List.mem_flatMap.1 h
  obtain ⟨y, hy, h1, h2⟩ := mul1_mem hz
  exact ⟨x, hx, y, hy, h1, h2⟩
theorem mulL_pok {ds : Pw} {s t : Sm} {M N : Int} (hs : Sok M s) (ht : Sok N t) : ∀ z ∈ mulL ds s t, Pok (M + N) z.1 := fun z hz => by
  obtain ⟨x, hx, y, hy, _, e⟩ := mulL_mem hz
  rw [e]
  exact (hs.key x hx).add (ht.key y hy)
theorem Sok.times {ds : Pw} {s t : Sm} {M N : Int} (hs : Sok M s) (ht : Sok N t) : Sok (M + N) (timesS ds s t) := Sok.nil.acc (mulL_pok hs ht)
theorem mul1_perm {ds : Pw} {x : Pw × Int} {t t' : Sm} (h : t.Perm t') : (mul1 ds x t).Perm (mul1 ds x t') := h.flatMap_right _
theorem mulL_perm {ds : Pw} {s s' t : Sm} (h : s.Perm s') : (mulL ds s t).Perm (mulL ds s' t) := h.flatMap_right _
theorem mulL_mid {ds : Pw} {l1 l2 : Sm} {x : Pw × Int} {t : Sm} : (mulL ds (l1 ++ x :: l2) t).Perm (mul1 ds x t ++ mulL ds (l1 ++ l2) t) := by
  refine (mulL_perm List.perm_middle).trans ?_
  show (mul1 ds x t ++ mulL ds (l1 ++ l2) t).Perm _
  exact List.Perm.refl _
theorem mul1_mid {ds : Pw} {x y : Pw × Int} {l1 l2 : Sm} : (mul1 ds x (l1 ++ y :: l2)).Perm ((if sgn ds x.1 y.1 = 0 then [] else [(addp x.1 y.1, (sgn ds x.1 y.1 * x.2 * y.2).tmod 10007)]) ++ mul1 ds x (l1 ++ l2)) :=
  mul1_perm List.perm_middle
def scl (t : Sm) (k : Int) : Sm := t.map fun y => (y.1, (y.2 * k).tmod 10007)
theorem scl_key {t : Sm} {k : Int} {z : Pw × Int} (h : z ∈ scl t k) : ∃ y ∈ t, z.1 = y.1 := by
  obtain ⟨y, hy, rfl⟩ := List.mem_map.1 h
  exact ⟨y, hy, rfl⟩
theorem scl_pok {M : Int} {t : Sm} (h : Sok M t) (k : Int) : ∀ z ∈ scl t k, Pok M z.1 := fun z hz => by
  obtain ⟨y, hy, e⟩ := scl_key hz
  rw [e]
  exact h.key y hy
end Go.Proofs.YtbjhllmcnfncdaaDoor.G
namespace Go.Proofs.YtbjhllmcnfncdaaDoor.G
open Go Go.RowKit
namespace Xc
theorem u108 : Tryd.prog.underlying 108 = some (TypeDesc.map 88 2) := by kernel_rfl
theorem u3 : Tryd.prog.underlying 3 = some (TypeDesc.int .i64) := by kernel_rfl
theorem u88 : Tryd.prog.underlying 88 = some (TypeDesc.array 8 3) := by kernel_rfl
theorem zv2 : ZeroV Tryd.prog 2 (.int .i64 0) := fun _ => by kernel_rfl
end Xc
open Xc
def pwE (p : Pw) : Value := .agg (intsC p).toArray
def pwOk (p : Pw) : Prop := p.length = 8 ∧ Small p
theorem pwOk_of {M : Int} {p : Pw} (h : Pok M p) (hM : M ≤ 1000000) : pwOk p := ⟨h.len, h.small hM⟩
theorem pwE_inj (x y : Pw) (h : pwE x = pwE y) : x = y := by
  unfold pwE intsC at h
  have h1 := congrArg (fun v => match v with | Value.agg cs => cs.toList | _ => []) h
  simp at h1
  exact (List.map_inj_right (fun a b h => by injection h)).1 h1
theorem keyLits8 {P : Program} {t e : TypeId} {d : Nat} {p : Pw} (ht : P.underlying t = some (.array 8 e)) (he : P.underlying e = some (.int .i64)) (hc : P.cellsOf e = 1) (hct : P.cellsOf t = 8) (h : pwOk p) : ∃ ls, P.keyLits (d + 2) t (intsC p) = some ls := by
  unfold Program.keyLits
  rw [ht]
  simp only [intsC_length, hct, h.1, if_true]
  have key : ∀ i, i < 8 → ∃ l, P.keyLits (d + 1) e (((intsC p).drop (i * P.cellsOf e)).take (P.cellsOf e)) = some l := by
    intro i hi
    have hb := h.2 i
    rw [hc, Nat.mul_one, List.drop_eq_getElem_cons (by simp [h.1]; omega), List.take_succ_cons, List.take_zero]
    have e1 : (intsC p)[i]'(by simp [h.1]; omega) = .int .i64 (p.getD i 0) := by
      have := intsC_get (m := p) (i := i) (by rw [h.1]; omega)
      rw [List.getElem?_eq_getElem (by simp [h.1]; omega)] at this
      exact Option.some.inj this
    rw [e1]
    refine ⟨[.int .i64 (p.getD i 0)], ?_⟩
    generalize p.getD i 0 = x at hb
    have hw : (Lit.int .i64 x).wf = true := by
      simp [Lit.wf, IntKind.min, IntKind.max, IntKind.signed, IntKind.bits]
      omega
    unfold Program.keyLits
    rw [he]
    simp [hw]
  have hm : ∀ (l : List Nat), (∀ i ∈ l, i < 8) → ∃ r, l.mapM (fun i => P.keyLits (d + 1) e (((intsC p).drop (i * P.cellsOf e)).take (P.cellsOf e))) = some r := by
    intro l
    induction l with
    | nil => intro _; exact ⟨[], rfl⟩
    | cons i l ih =>
      intro hl
      obtain ⟨a, ha⟩ := key i (hl i (by simp))
      obtain ⟨r, hr⟩ := ih fun j hj => hl j (by simp [hj])
      exact ⟨a :: r, by simp [List.mapM_cons, ha, hr]⟩
  obtain ⟨r, hr⟩ := hm (List.range 8) fun i hi => List.mem_range.1 hi
  rw [hr]
  exact ⟨_, rfl⟩
theorem pwK : KeyT Tryd.prog 88 pwE pwOk := KeyT.of (Go.Maps.Keyed.of_law (deep_law_laid (m := 5) (by kernel_rfl) (by decide) (of_decide_eq_true (by kernel_rfl)) (by kernel_rfl) (by kernel_rfl))) pwE_inj fun p hp => by
  obtain ⟨ls, hl⟩ := keyLits8 (P := Tryd.prog) (t := 88) (e := 3) (d := Tryd.prog.types.size - 1) u88 u3 (by kernel_rfl) (by kernel_rfl) hp
  have e1 : Tryd.prog.types.size - 1 + 2 = Tryd.prog.types.size + 1 := by kernel_rfl
  rw [e1] at hl
  have hc8 : Tryd.prog.cellsOf 88 = 8 := by kernel_rfl
  have hf : (pwE p).formed Tryd.prog 88 = true := by
    simp [pwE, Value.formed, u88, hc8, hp.1]
  refine ⟨.string (keyBytes ls), ?_⟩
  unfold keyOf
  rw [u88]
  simp only []
  have hkt : Tryd.prog.keyType 88 = true := by kernel_rfl
  rw [hkt, hf]
  simp only [Bool.and_self, if_true]
  have : (pwE p).cells.toList = intsC p := by simp [pwE, Value.cells]
  rw [this, hl]
  rfl
abbrev SumH (H : HP) (v : Value) (s : Sm) : Prop := MapH pwE (Value.int .i64) pwOk H v s
abbrev osum (b : Nat) (s : Sm) : SA := omap pwE (Value.int .i64) pwOk b s
section
variable {P : Program} {ops : Array Oper} {Q : Exit → Act → World → Prop} {n : Nat} {B : World} {H0 H : HP} {rest : List Oper} {us : List (Nat × Value)} {L L' : List SA} {t : TypeId} {p : String} {af : Array Edge} {d : Nat} {x y z : Operand}
theorem PR.sumO {ty K : TypeId} {s : Sm} {q : Pw} {b : Nat} (hK : KeyT P K pwE pwOk) (hu : P.underlying ty = some (.map K 2)) (hz : ZeroV P 2 (.int .i64 0)) (hx : opv us x = some (.map (some b))) (hat : At L (osum b s) (osum b s) L) (hy : opv us y = some (.agg (intsC q).toArray)) (hk : pwOk q) : PR P n B H0 us H L (.lookup ty x y false) t (.int .i64 (cf s q)) := by
  rw [← look_cf]
  exact PR.lookO hu hK hz hx hat hy hk
theorem J.permO {b : Nat} {s s' : Sm} {L1 : List SA} (hp : s.Perm s') (hat : At L (osum b s) (osum b s') L1) (k : J P ops Q n B H0 rest us H L1) : J P ops Q n B H0 rest us H L := fun a w hF hH => k a w hF (hH.reAt hat (by
  obtain ⟨es, clock, h1, h2⟩ := (hH.objs _ hat.mem).1
  exact ⟨es, clock, h1, h2.perm hp⟩) fun _ h => h)
theorem At.both {A A' A'' : SA} (h : At L A A'' L') : ∃ L1, At L A A' L1 ∧ At L1 A' A'' L' := by
  induction h with
  | z => exact ⟨_, .z, .z⟩
  | s _ ih =>
    obtain ⟨L1, h1, h2⟩ := ih
    exact ⟨_, .s h1, .s h2⟩
theorem J.putP {ty K e : TypeId} {b : Nat} {s s' : Sm} {q : Pw} {v : Int} (hK : KeyT P K pwE pwOk) (hu : P.underlying ty = some (.map K e)) (hx : opv us x = some (.map (some b))) (hy : opv us y = some (.agg (intsC q).toArray)) (hz : opv us z = some (.int .i64 v)) (hk : pwOk q) (hp : (putM s q v).Perm s')
    (hat : At L (osum b s) (osum b s') L') (kk : J P ops Q n B H0 rest us H L') : J P ops Q n B H0 (⟨none, .mapUpdate ty x y z, t, p, af, none⟩ :: rest) us H L := by
  obtain ⟨L1, h1, h2⟩ := hat.both (A' := osum b (putM s q v))
  exact J.mapUpdate hu hK hx hy hz hk h1 (J.permO hp h2 kk)
theorem J.putAdd {ty K e : TypeId} {b : Nat} {s : Sm} {q : Pw} {M v k : Int} (hK : KeyT P K pwE pwOk) (hu : P.underlying ty = some (.map K e)) (hx : opv us x = some (.map (some b))) (hy : opv us y = some (.agg (intsC q).toArray)) (hz : opv us z = some (.int .i64 v)) (hk : pwOk q) (hs : Sok M s) (hq : Pok M q) (hv : v = fld (cf s q + k)) (h0 : v ≠ 0)
    (hat : At L (osum b s) (osum b (addS s q k)) L') (kk : J P ops Q n B H0 rest us H L') : J P ops Q n B H0 (⟨none, .mapUpdate ty x y z, t, p, af, none⟩ :: rest) us H L := by
  subst hv
  exact J.putP hK hu hx hy hz hk (put_add hq k hs h0) hat kk
theorem J.putOne {ty K e : TypeId} {b : Nat} {q : Pw} {v : Int} (hK : KeyT P K pwE pwOk) (hu : P.underlying ty = some (.map K e)) (hx : opv us x = some (.map (some b))) (hy : opv us y = some (.agg (intsC q).toArray)) (hz : opv us z = some (.int .i64 v)) (hk : pwOk q)
    (hat : At L (osum b []) (osum b [(q, v)]) L') (kk : J P ops Q n B H0 rest us H L') : J P ops Q n B H0 (⟨none, .insert ty x y z, t, p, af, none⟩ :: rest) us H L := J.insert hu hK hx hy hz hk hat kk
theorem J.delAdd {ty tk K e : TypeId} {b : Nat} {s : Sm} {q : Pw} {M k : Int} (hK : KeyT P K pwE pwOk) (hu : P.underlying ty = some (.map K e)) (hx : opv us x = some (.map (some b))) (hy : opv us y = some (.agg (intsC q).toArray)) (hk : pwOk q) (hs : Sok M s) (hq : Pok M q) (h0 : fld (cf s q + k) = 0)
    (hat : At L (osum b s) (osum b (addS s q k)) L') (kk : J P ops Q n B H0 rest us H L') : J P ops Q n B H0 (⟨none, .call { callee := .builtin .delete, args := #[x, y], argTypes := #[ty, tk] }, t, p, af, none⟩ :: rest) us H L := by
  obtain ⟨L1, h1, h2⟩ := hat.both (A' := osum b (delM s q))
  exact J.delete hu hK hx hy hk h1 (J.permO (del_add hq k hs h0) h2 kk)
end
theorem Sok.one {M : Int} {p : Pw} (h : Pok M p) {k : Int} (hk : 1 ≤ k ∧ k ≤ 10006) : Sok M [(p, k)] := ⟨by simp, fun x hx => by simp at hx; rw [hx]; exact h, fun x hx => by simp at hx; rw [hx]; exact hk⟩
end Go.Proofs.YtbjhllmcnfncdaaDoor.G
namespace Go.Proofs.YtbjhllmcnfncdaaDoor.G
open Go Go.RowKit
namespace Xd
theorem u108 : Tryd.prog.underlying 108 = some (TypeDesc.map 88 2) := by kernel_rfl
theorem u88 : Tryd.prog.underlying 88 = some (TypeDesc.array 8 3) := by kernel_rfl
theorem sz88 : Size Tryd.prog 88 8 := by unfold Size; kernel_rfl
theorem zv2 : ZeroV Tryd.prog 2 (.int .i64 0) := fun _ => by kernel_rfl
theorem ze88 : Zero Tryd.prog 88 [.int .i64 0, .int .i64 0, .int .i64 0, .int .i64 0, .int .i64 0, .int .i64 0, .int .i64 0, .int .i64 0] := by unfold Zero; kernel_rfl
theorem ag88 : Agg Tryd.prog 88 8 := ⟨_, u88, rfl, by kernel_rfl⟩
theorem fn84 : Fn Tryd.prog 84 := ⟨_, Tryd.func84, by kernel_rfl, rfl⟩
theorem fn94 : Fn Tryd.prog 94 := ⟨_, Tryd.func94, by kernel_rfl, rfl⟩
end Xd
open Xd
set_option maxRecDepth 10000 in
theorem field_c {B : World} {H0 H : HP} {L : List SA} {w : World} {x : Int}  (hx : -1000000000000 ≤ x ∧ x ≤ 1000000000000) (hH : Hp B H0 H L w) :
    Calls Tryd.prog 84 [.int .i64 x].toArray w fun e w' => e = .returned (.int .i64 (fld x)) ∧ Hp B H0 H L w' := by
  refine CJ.enter Tryd.func84 rfl 7 rfl rfl [(0, .int .i64 x)] rfl hH ?_
  clear hH
  have hb := tmod_bd x
  refine CJ.seq fun _ hK1 _ => ?_
  refine CJ.region ?_
  refine J.p (PR.assign rfl) rfl ?_
  refine J.nil ?_
  refine EJ.thenN (hK1 ?_)
  refine CJ.seq fun _ hK2 _ => ?_
  refine CJ.region ?_
  refine J.p (PR.move rfl) rfl ?_
  refine J.p (PR.rem rfl rfl (by decide) rfl) rfl ?_
  refine J.p (PR.add rfl rfl (by first | exact nw _ (by omega) | rfl)) rfl ?_
  refine J.p (PR.rem rfl rfl (by decide) rfl) rfl ?_
  refine J.p (PR.assign rfl) rfl ?_
  refine J.nil ?_
  refine EJ.thenN (hK2 ?_)
  refine CJ.ret ?_
  refine EJ.ret1 rfl (Res.tmp rfl) fun w hH => ?_
  exact ⟨rfl, hH⟩
set_option maxRecDepth 10000 in
theorem add_c {B : World} {H0 H : HP} {L : List SA} {w : World} {bs : Nat} {Ms : Int} {s : Sm} {Mp : Int} {p : List Int} {k : Int}  (ks : Sok Ms s) (hp : Pok Mp p) (hM : Ms ≤ 1000000) (hpM : Mp ≤ Ms) (hk : -1000000000 ≤ k ∧ k ≤ 1000000000) (hH : Hp B H0 H (osum bs s :: L) w) :
    Calls Tryd.prog 94 [.map (some bs), .agg (intsC p).toArray, .int .i64 k].toArray w fun e w' => e = .returned (.tuple #[]) ∧ Hp B H0 H (osum bs (addS s p k) :: L) w' := by
  refine CJ.enter Tryd.func94 rfl 20 rfl rfl [(0, .map (some bs)), (1, .agg (intsC p).toArray), (2, .int .i64 k)] rfl hH ?_
  clear hH
  have hp8 := hp.len
  have hc := cf_bd ks p
  refine CJ.seq fun _ hK1 _ => ?_
  refine CJ.region ?_
  refine J.box rfl rfl rfl fun g4 => ?_
  refine J.nil ?_
  refine EJ.thenN (hK1 ?_)
  refine CJ.seq fun _ hK2 _ => ?_
  refine CJ.region ?_
  refine J.p (PR.move rfl) rfl ?_
  refine J.p (PR.loadAll rfl At.z (by simpa [*] using ag88)) rfl ?_
  refine J.p (PR.sumO pwK u108 zv2 rfl (.s .z) rfl (pwOk_of hp (by omega))) rfl ?_
  refine J.p (PR.move rfl) rfl ?_
  refine J.p (PR.add rfl rfl (by first | exact nw _ (by omega) | rfl)) rfl ?_
  refine J.call fn84 rfl rfl fun w hH => (field_c (by omega) hH).mono ?_
  rintro _ w ⟨rfl, hH⟩
  refine ⟨_, rfl, fun a hF => J.of hF hH ?_⟩
  refine J.p (PR.assign rfl) rfl ?_
  refine J.nil ?_
  refine EJ.thenN (hK2 ?_)
  refine CJ.seq fun _ hK3 _ => ?_
  refine CJ.region ?_
  refine J.p (PR.move rfl) rfl ?_
  refine J.p (PR.neq rfl rfl) rfl ?_
  refine J.nil ?_
  refine EJ.thenN (hK3 ?_)
  refine CJ.condD rfl (fun h14 => ?_) (fun h14 => ?_)
  ·
    refine CJ.region ?_
    refine J.p (PR.move rfl) rfl ?_
    refine J.p (PR.loadAll rfl At.z (by simpa [*] using ag88)) rfl ?_
    refine J.p (PR.move rfl) rfl ?_
    refine J.putAdd pwK u108 rfl rfl rfl (pwOk_of hp (by omega)) ks (hp.mono hpM) rfl h14 (.s .z) ?_
    refine J.nil ?_
    refine EJ.ret0 rfl  fun w hH => ?_
    replace hH := hH.sublist (.cons _ (.cons_cons _ (List.Sublist.refl _)))
    exact ⟨rfl, hH⟩
  ·
    refine CJ.region ?_
    refine J.p (PR.move rfl) rfl ?_
    refine J.p (PR.loadAll rfl At.z (by simpa [*] using ag88)) rfl ?_
    refine J.delAdd pwK u108 rfl rfl (pwOk_of hp (by omega)) ks (hp.mono hpM) (Decidable.not_not.1 h14) (.s .z) ?_
    refine J.nil ?_
    refine EJ.ret0 rfl  fun w hH => ?_
    replace hH := hH.sublist (.cons _ (.cons_cons _ (List.Sublist.refl _)))
    exact ⟨rfl, hH⟩
theorem scl_mid {l1 l2 : Sm} {x : Pw × Int} {k : Int} : (scl (l1 ++ x :: l2) k).Perm ((x.1, (x.2 * k).tmod 10007) :: scl (l1 ++ l2) k) := by
  unfold scl
  exact (List.perm_middle).map _
theorem rot {α : Type} (a b : List α) (x : α) {l m : List α} (h : (a ++ l).Perm m) (h2 : l.Perm (x :: b)) : (a ++ [x] ++ b).Perm m := by
  rw [List.append_assoc]
  exact (List.Perm.append_left a h2.symm).trans h
theorem perm_nil {α : Type} {a l m : List α} (h : (a ++ l).Perm m) (h2 : l = []) : a.Perm m := by
  subst h2
  rwa [List.append_nil] at h
set_option maxRecDepth 10000 in
theorem addAll_c {B : World} {H0 H : HP} {L : List SA} {w : World} {bs : Nat} {Ms : Int} {s : Sm} {vt : Value} {Mt : Int} {t : Sm} {k : Int}  (ks : Sok Ms s) (ht : SumH H vt t) (kt : Sok Mt t) (hM : Ms ≤ 1000000) (htM : Mt ≤ Ms) (hk : 0 ≤ k ∧ k ≤ 10006) (hH : Hp B H0 H (osum bs s :: L) w) :
    Calls Tryd.prog 83 [.map (some bs), vt, .int .i64 k].toArray w fun e w' => e = .returned (.tuple #[]) ∧ Hp B H0 H (osum bs (acc s (scl t k)) :: L) w' := by
  refine CJ.enter Tryd.func83 rfl 22 rfl rfl [(0, .map (some bs)), (1, vt), (2, .int .i64 k)] rfl hH ?_
  clear hH
  obtain ⟨bt, est, clt, rfl, hbt, het⟩ := ht
  have ht : SumH H (.map (some bt)) t := ⟨bt, est, clt, rfl, hbt, het⟩
  refine CJ.seq fun _ hK1 _ => ?_
  refine CJ.region ?_
  refine J.p (PR.move rfl) rfl ?_
  refine J.range u108 rfl hbt het rfl fun r9 => ?_
  refine J.nil ?_
  refine EJ.thenN (hK1 ?_)
  refine CJ.block ?_
  refine CJ.loopU (σ := Option (Pw × Int) × Sm × Sm) (fun ⟨la, ls, dn⟩ => []) (fun ⟨la, ls, dn⟩ => H) (fun ⟨la, ls, dn⟩ => itr pwE (Value.int .i64) bt est clt r9 la ls :: osum bs (acc s dn) :: L) (fun ⟨la, ls, dn⟩ => (dn ++ scl ls k).Perm (scl t k) ∧ ∀ x ∈ ls, x ∈ t) (fun ⟨la, ls, dn⟩ => ls.length) (none, t, []) ⟨List.Perm.refl _, fun _ h => h⟩ trivial rfl rfl ?_
  rintro ⟨la, ls, dn⟩ hI _ hAg0
  have ksn : Sok Ms (acc s dn) := ks.acc fun x hx => (scl_pok kt k x (hI.1.mem_iff.1 (by simp [hx]))).mono htM
  refine CJ.seq fun _ hK2 _ => ?_
  refine CJ.region ?_
  refine J.next rfl hbt het (fun _ _ => At.z) rfl (fun hE10 => ?_) (fun nx10 la10 lb10 hL10 => ?_)
  ·
    refine J.p (PR.extract rfl rfl) rfl ?_
    refine J.nil ?_
    refine EJ.thenN (hK2 ?_)
    refine CJ.seq fun _ hK3 _ => ?_
    refine CJ.condF rfl ?_
    refine CJ.exit ?_
    refine EJ.thenE ?_
    refine EJ.thenE ?_
    refine EJ.inE ?_
    refine EJ.ret0 rfl  fun w hH => ?_
    replace hH := hH.sublist (.cons _ (.cons_cons _ (List.Sublist.refl _)))
    rw [acc_perm ks (fun x hx => (scl_pok kt k x ((perm_nil hI.1 (by rw [hE10]; rfl)).mem_iff.1 hx)).mono htM) (perm_nil hI.1 (by rw [hE10]; rfl))] at hH
    exact ⟨rfl, hH⟩
  ·
    subst hL10
    have hu := hI.2 nx10 (by simp)
    have hu8 := (kt.key nx10 hu).len
    have hv := kt.val nx10 hu
    have hm := mul_bd (a := nx10.2) (b := k) (A := 10006) (B := 10006) (by omega) hk
    have hb := tmod_bd (nx10.2 * k)
    refine J.p (PR.extract rfl rfl) rfl ?_
    refine J.nil ?_
    refine EJ.thenN (hK2 ?_)
    refine CJ.seq fun _ hK4 _ => ?_
    refine CJ.condT rfl ?_
    refine CJ.skip ?_
    refine EJ.thenN (hK4 ?_)
    refine CJ.block ?_
    refine CJ.seq fun _ hK5 _ => ?_
    refine CJ.region ?_
    refine J.p (PR.entry rfl hbt het At.z) rfl ?_
    refine J.p (PR.extract rfl rfl) rfl ?_
    refine J.p (PR.extract rfl rfl) rfl ?_
    refine J.alloc ze88 rfl fun g6 => ?_
    refine J.storeAll rfl rfl (by first | exact bytesC_one _ | exact intsC_one _ | exact Term.c_one _ | simp [Value.oneCell']) (by simpa [*] using sz88) (by simp [*]) At.z ?_
    refine J.p (PR.assign rfl) rfl ?_
    refine J.nil ?_
    refine EJ.thenN (hK5 ?_)
    refine CJ.region ?_
    refine J.p (PR.move rfl) rfl ?_
    refine J.p (PR.loadAll rfl At.z (by simpa [*] using ag88)) rfl ?_
    refine J.p (PR.move rfl) rfl ?_
    refine J.p (PR.move rfl) rfl ?_
    refine J.p (PR.mul rfl rfl (by first | exact nw _ (by omega) | rfl)) rfl ?_
    refine J.p (PR.rem rfl rfl (by decide) rfl) rfl ?_
    refine J.call fn94 rfl rfl fun w hH => (add_c ksn (kt.key nx10 hu) (by omega) (by omega) (by omega) (hH.front (.s (.s .z)))).mono ?_
    rintro _ w ⟨rfl, hH⟩
    refine ⟨_, rfl, fun a hF => J.of hF hH ?_⟩
    refine J.nil ?_
    refine EJ.inN ?_
    refine EJ.thenN ?_
    refine EJ.drop (.s .z) ?_
    refine EJ.front .z ?_
    refine EJ.front (.s .z) ?_
    exact hAg0 (some nx10, la10 ++ lb10, dn ++ [(nx10.1, (nx10.2 * k).tmod 10007)]) ⟨rot _ _ _ hI.1 scl_mid, fun x hx => hI.2 x (by simp at hx ⊢; rcases hx with h | h <;> simp [h])⟩ (by simp) 14 rfl rfl trivial rfl (by simp only [acc_one])
end Go.Proofs.YtbjhllmcnfncdaaDoor.G
namespace Go.Proofs.YtbjhllmcnfncdaaDoor.G
open Go Go.RowKit
namespace Xe
theorem u2 : Tryd.prog.underlying 2 = some (TypeDesc.int .i64) := by kernel_rfl
theorem u22 : Tryd.prog.underlying 22 = some (TypeDesc.slice 2) := by kernel_rfl
theorem u3 : Tryd.prog.underlying 3 = some (TypeDesc.int .i64) := by kernel_rfl
theorem u88 : Tryd.prog.underlying 88 = some (TypeDesc.array 8 3) := by kernel_rfl
theorem sz2 : Size Tryd.prog 2 1 := by unfold Size; kernel_rfl
theorem sz3 : Size Tryd.prog 3 1 := by unfold Size; kernel_rfl
theorem sz88 : Size Tryd.prog 88 8 := by unfold Size; kernel_rfl
theorem ze88 : Zero Tryd.prog 88 [.int .i64 0, .int .i64 0, .int .i64 0, .int .i64 0, .int .i64 0, .int .i64 0, .int .i64 0, .int .i64 0] := by unfold Zero; kernel_rfl
theorem bz88 : ∀ w, (Instr.build 88 #[]).run Tryd.prog w = .ok (.agg [.int .i64 0, .int .i64 0, .int .i64 0, .int .i64 0, .int .i64 0, .int .i64 0, .int .i64 0, .int .i64 0].toArray) w := fun _ => by kernel_rfl
theorem pl2 : Plain Tryd.prog 2 := ⟨_, u2, rfl⟩
theorem pl3 : Plain Tryd.prog 3 := ⟨_, u3, rfl⟩
theorem ag88 : Agg Tryd.prog 88 8 := ⟨_, u88, rfl, by kernel_rfl⟩
theorem foll0 : Tryd.prog.follows .mixedOrders = true := by kernel_rfl
end Xe
open Xe
def prodP (ds p q : Pw) : Pw := if hits ds p q then List.replicate 8 0 else addp p q
def addTo (p q : Pw) (k : Nat) : Pw := (List.range 8).map fun i => if i < k then p.getD i 0 + q.getD i 0 else p.getD i 0
@[simp] theorem addTo_len (p q : Pw) (k : Nat) : (addTo p q k).length = 8 := by simp [addTo]
theorem addTo_get {p q : Pw} {k i : Nat} (h : i < 8) : (addTo p q k).getD i 0 = if i < k then p.getD i 0 + q.getD i 0 else p.getD i 0 := by
  simp [addTo, List.getD_eq_getElem?_getD, h]
theorem addTo_zero {p q : Pw} (hp : p.length = 8) : addTo p q 0 = p := list_eq_of (by simp [hp]) fun j hj => by
  rw [addTo_get (by simpa using hj), if_neg (by omega)]
theorem addTo_end (p q : Pw) : addTo p q 8 = addp p q := list_eq_of (by simp) fun j hj => by
  have hj8 : j < 8 := by simpa using hj
  rw [addTo_get hj8, if_pos hj8]
  simp [addp, List.getD_eq_getElem?_getD, hj8]
theorem addTo_set {p q : Pw} {k : Nat} (hk : k < 8) : (addTo p q k).set k (p.getD k 0 + q.getD k 0) = addTo p q (k + 1) := list_eq_of (by simp) fun j hj => by
  have hj8 : j < 8 := by simpa using hj
  rw [addTo_get hj8]
  by_cases e : k = j
  · subst e
    simp [List.getD_eq_getElem?_getD, hk]
  · rw [List.getD_eq_getElem?_getD, List.getElem?_set_ne e, ← List.getD_eq_getElem?_getD, addTo_get hj8]
    by_cases h : j < k
    · rw [if_pos h, if_pos (by omega)]
    · rw [if_neg h, if_neg (by omega)]
theorem sgn_hit {ds p q : Pw} {i : Nat} (hi : i < ds.length) (h : hitAt ds p q i = true) : sgn ds p q = 0 ∧ prodP ds p q = List.replicate 8 0 := by
  have := hits_yes hi h
  unfold sgn prodP
  rw [this]
  exact ⟨rfl, rfl⟩
theorem sgn_free {ds p q : Pw} (h : ∀ i, i < ds.length → hitAt ds p q i = false) : sgn ds p q = (if (oddTo ds p q ds.length).tmod 2 = 1 then -1 else 1) ∧ prodP ds p q = addp p q := by
  have := hits_no h
  unfold sgn prodP
  rw [this]
  exact ⟨rfl, rfl⟩
theorem odd_skip {ds p q : Pw} {k : Nat} (h : ¬ ((ds.getD k 0).tmod 2 ≠ 0 ∧ 0 < q.getD k 0)) : oddTo ds p q k = oddTo ds p q (k + 1) := by
  simp only [oddTo]
  rw [if_neg h]
  omega
theorem odd_take {ds p q : Pw} {k m : Nat} (h : (ds.getD k 0).tmod 2 ≠ 0 ∧ 0 < q.getD k 0) (hm : m = ds.length - (k + 1)) : oddTo ds p q k + oin ds p k m = oddTo ds p q (k + 1) := by
  subst hm
  simp only [oddTo]
  rw [if_pos h]
theorem hit_even {ds p q : Pw} {k : Nat} (h : (ds.getD k 0).tmod 2 = 0) : hitAt ds p q k = false := by unfold hitAt; rw [decide_eq_false (p := (ds.getD k 0).tmod 2 ≠ 0) (fun h' => h' h)]; rfl
theorem hit_p {ds p q : Pw} {k : Nat} (h : ¬ p.getD k 0 > 0) : hitAt ds p q k = false := by unfold hitAt; rw [decide_eq_false (by omega : ¬ 0 < p.getD k 0)]; simp
theorem hit_q {ds p q : Pw} {k : Nat} (h : ¬ q.getD k 0 > 0) : hitAt ds p q k = false := by unfold hitAt; rw [decide_eq_false (by omega : ¬ 0 < q.getD k 0)]; simp
theorem hit_yes {ds p q : Pw} {k : Nat} (h1 : ¬ (ds.getD k 0).tmod 2 = 0) (h2 : p.getD k 0 > 0) (h3 : q.getD k 0 > 0) : hitAt ds p q k = true := by
  unfold hitAt
  rw [decide_eq_true h1, decide_eq_true (by omega : 0 < p.getD k 0), decide_eq_true (by omega : 0 < q.getD k 0)]
  rfl
set_option maxHeartbeats 4000000 in
set_option maxRecDepth 10000 in
theorem timesP_c {B : World} {H0 H : HP} {L : List SA} {w : World} {Mp : Int} {p : List Int} {qds : Option Addr} {cds : Nat} {ds : List Int} {Mq : Int} {q : List Int}  (hp : Pok Mp p) (hds : Ints H qds ds) (hq : Pok Mq q) (hn : ds.length ≤ 8) (hd : ∀ j, 0 ≤ ds.getD j 0 ∧ ds.getD j 0 ≤ 12) (hM : Mp ≤ 1000000 ∧ Mq ≤ 1000000) (hH : Hp B H0 H L w) :
    Calls Tryd.prog 93 [.agg (intsC p).toArray, .slice qds ds.length cds, .agg (intsC q).toArray].toArray w fun e w' => e = .returned (.tuple #[.agg (intsC (prodP ds p q)).toArray, .int .i64 (sgn ds p q)]) ∧ Hp B H0 H L w' := by
  refine CJ.enter Tryd.func93 rfl 75 rfl rfl [(0, .agg (intsC p).toArray), (1, .slice qds ds.length cds), (2, .agg (intsC q).toArray)] rfl hH ?_
  clear hH
  have hp8 := hp.len
  have hq8 := hq.len
  refine CJ.seq fun _ hK1 _ => ?_
  refine CJ.region ?_
  refine J.box rfl rfl rfl fun g3 => ?_
  refine J.box rfl rfl rfl fun g5 => ?_
  refine J.alloc ze88 rfl fun g6 => ?_
  refine J.p (PR.assign rfl) rfl ?_
  refine J.nil ?_
  refine EJ.thenN (hK1 ?_)
  refine CJ.seq fun _ hK2 _ => ?_
  refine CJ.region ?_
  refine J.p (PR.assign rfl) rfl ?_
  refine J.nil ?_
  refine EJ.thenN (hK2 ?_)
  refine CJ.seq fun _ hK3 _ => ?_
  refine CJ.seq fun _ hK4 _ => ?_
  refine CJ.region ?_
  refine J.p (PR.move rfl) rfl ?_
  refine J.p (PR.lenSlice u22 rfl rfl) rfl ?_
  refine J.p (PR.move rfl) rfl ?_
  refine J.nil ?_
  refine EJ.thenN (hK4 ?_)
  refine CJ.block ?_
  refine CJ.loopU (σ := Nat) (fun (k : Nat) => [(15, .int .i64 (k : Int)), (8, .int .i64 (oddTo ds p q k))]) (fun (k : Nat) => H) (fun (k : Nat) => obj g6 (.cells (intsC (List.replicate 8 0)).toArray 88 (0, 0)) :: obj g5 (.cells (intsC q).toArray 88 (0, 0)) :: obj g3 (.cells (intsC p).toArray 88 (0, 0)) :: L) (fun (k : Nat) => k ≤ ds.length ∧ ∀ j, j < k → hitAt ds p q j = false) (fun (k : Nat) => ds.length - k) 0 ⟨by omega, fun j hj => by omega⟩ ⟨rfl, ⟨rfl, trivial⟩⟩ rfl rfl ?_
  rintro k ⟨hkI, hhI⟩ _ hAg0
  have hk := hkI
  have ob := oddTo_bd hn hd hp.bd (q := q) k
  have kM : ((k : Nat) : Int) * (8 * Mp) ≤ 8 * (8 * 1000000) := Int.mul_le_mul (by omega) (by omega) (by have := hp.bd 0; omega) (by omega)
  have hb := hd k
  refine CJ.seq fun _ hK5 _ => ?_
  refine CJ.region ?_
  refine J.p (PR.lss rfl rfl) rfl ?_
  refine J.nil ?_
  refine EJ.thenN (hK5 ?_)
  refine CJ.seq fun _ hK6 _ => ?_
  refine CJ.condD rfl (fun hc16 => ?_) (fun hc16 => ?_)
  ·
    refine CJ.skip ?_
    refine EJ.thenN (hK6 ?_)
    refine CJ.seq fun _ hK7 _ => ?_
    refine CJ.block ?_
    refine CJ.seq fun _ hK8 _ => ?_
    refine CJ.region ?_
    refine J.p (PR.move rfl) rfl ?_
    refine J.p (PR.idx1 u22 sz2 rfl rfl rfl (by omega) hds.sm) rfl ?_
    refine J.p (PR.loadH rfl (hds _ (by omega)) pl2) rfl ?_
    refine J.p (PR.assign rfl) rfl ?_
    refine J.p (PR.assign rfl) rfl ?_
    refine J.nil ?_
    refine EJ.thenN (hK8 ?_)
    refine CJ.seq fun _ hK9 _ => ?_
    refine CJ.seq fun _ hK10 _ => ?_
    refine CJ.region ?_
    refine J.p (PR.move rfl) rfl ?_
    refine J.p (PR.rem rfl rfl (by decide) rfl) rfl ?_
    refine J.p (PR.eql rfl rfl) rfl ?_
    refine J.nil ?_
    refine EJ.thenN (hK10 ?_)
    refine CJ.condD rfl (fun h22 => ?_) (fun h22 => ?_)
    ·
      refine CJ.exit ?_
      refine EJ.thenE ?_
      refine EJ.inE ?_
      refine EJ.thenN (hK7 ?_)
      refine CJ.region ?_
      refine J.p (PR.add rfl rfl (by first | exact nw _ (by omega) | rfl)) rfl ?_
      refine J.p (PR.move rfl) rfl ?_
      refine J.nil ?_
      refine EJ.thenN ?_
      exact hAg0 (k + 1) ⟨by omega, upto hhI (hit_even h22)⟩ (by omega) 13 rfl rfl ⟨rfl, ⟨(vi (odd_skip (fun h => h.1 h22))), trivial⟩⟩ rfl rfl
    ·
      refine CJ.skip ?_
      refine EJ.thenN (hK9 ?_)
      refine CJ.seq fun _ hK11 _ => ?_
      refine CJ.seq fun _ hK12 _ => ?_
      refine CJ.region ?_
      refine J.p (PR.move rfl) rfl ?_
      refine J.p (PR.idxA1 u88 sz3 rfl rfl rfl (by omega)) rfl ?_
      refine J.p (PR.load rfl (.s (.s .z)) (by first | exact bytesC_get (by simp [*]; omega) | exact intsC_get (by simp [*]; omega)) pl3) rfl ?_
      refine J.p (PR.gtr rfl rfl) rfl ?_
      refine J.p (PR.move rfl) rfl ?_
      refine J.splitB (jd := 27) rfl (fun h27 => ?_) (fun h27 => ?_)
      ·
        try have h27p := of_decide_eq_true h27
        refine J.gy (PR.move rfl) rfl rfl rfl h27 ?_
        refine J.gy (PR.idxA1 u88 sz3 rfl rfl rfl (by omega)) rfl rfl rfl h27 ?_
        refine J.gy (PR.load rfl (.s .z) (by first | exact bytesC_get (by simp [*]; omega) | exact intsC_get (by simp [*]; omega)) pl3) rfl rfl rfl h27 ?_
        refine J.gy (PR.gtr rfl rfl) rfl rfl rfl h27 ?_
        refine J.p (PR.pickT rfl h27 rfl) rfl ?_
        refine J.nil ?_
        refine EJ.thenN (hK12 ?_)
        refine CJ.condD rfl (fun h32 => ?_) (fun h32 => ?_)
        ·
          refine CJ.seq fun _ hK13 _ => ?_
          refine CJ.region ?_
          refine J.p (PR.buildZ bz88) rfl ?_
          refine J.storeAll rfl rfl (by first | exact bytesC_one _ | exact intsC_one _ | exact Term.c_one _ | simp [Value.oneCell']) (by simpa [*] using sz88) (by simp [*]) At.z ?_
          refine J.p (PR.assign rfl) rfl ?_
          refine J.nil ?_
          refine EJ.thenN (hK13 ?_)
          refine CJ.ret ?_
          refine EJ.thenR ?_
          refine EJ.inR ?_
          refine EJ.thenR ?_
          refine EJ.thenR ?_
          refine EJ.inR ?_
          refine EJ.thenR ?_
          refine EJ.ret2 rfl (Res.agg rfl At.z (by simpa [*] using ag88)) (Res.tmp rfl) fun w hH => ?_
          replace hH := hH.tail
          replace hH := hH.tail
          replace hH := hH.tail
          obtain ⟨e1, e2⟩ := sgn_hit (by omega) (hit_yes h22 h27p h32)
          rw [e1, e2]
          exact ⟨rfl, hH⟩
        ·
          refine CJ.skip ?_
          refine EJ.thenN (hK11 ?_)
          refine CJ.seq fun _ hK14 _ => ?_
          refine CJ.region ?_
          refine J.p (PR.move rfl) rfl ?_
          refine J.p (PR.idxA1 u88 sz3 rfl rfl rfl (by omega)) rfl ?_
          refine J.p (PR.load rfl (.s .z) (by first | exact bytesC_get (by simp [*]; omega) | exact intsC_get (by simp [*]; omega)) pl3) rfl ?_
          refine J.p (PR.gtr rfl rfl) rfl ?_
          refine J.nil ?_
          refine EJ.thenN (hK14 ?_)
          refine CJ.condD rfl (fun h37 => ?_) (fun h37 => ?_)
          ·
            refine CJ.seq fun _ hK15 _ => ?_
            refine CJ.region ?_
            refine J.p (PR.move rfl) rfl ?_
            refine J.p (PR.add rfl rfl (by first | exact nw _ (by omega) | rfl)) rfl ?_
            refine J.p (PR.assign rfl) rfl ?_
            refine J.nil ?_
            refine EJ.thenN (hK15 ?_)
            refine CJ.block ?_
            refine CJ.loopU (σ := Nat) (fun (m : Nat) => [(11, .int .i64 ((k + 1 + m : Nat) : Int)), (8, .int .i64 (oddTo ds p q k + oin ds p k m))]) (fun (m : Nat) => H) (fun (m : Nat) => obj g6 (.cells (intsC (List.replicate 8 0)).toArray 88 (0, 0)) :: obj g5 (.cells (intsC q).toArray 88 (0, 0)) :: obj g3 (.cells (intsC p).toArray 88 (0, 0)) :: L) (fun (m : Nat) => k + 1 + m ≤ ds.length) (fun (m : Nat) => ds.length - (k + 1 + m)) 0 (by omega) ⟨(vi (by omega)), ⟨(vi (by simp [oin])), trivial⟩⟩ rfl rfl ?_
            rintro m hI _ hAg1
            have hm9 := hI
            have ob := oin_bd hd hp.bd k m
            have o2 := deg2 hd (k + 1 + m)
            have pb := hp.bd (k + 1 + m)
            have tp : 0 ≤ (ds.getD (k + 1 + m) 0).tmod 2 * p.getD (k + 1 + m) 0 ∧ (ds.getD (k + 1 + m) 0).tmod 2 * p.getD (k + 1 + m) 0 ≤ 1000000 := by rcases o2 with h | h <;> rw [h] <;> first | (rw [Int.zero_mul]; omega) | (rw [Int.one_mul]; omega)
            have mM : ((m : Nat) : Int) * Mp ≤ 8 * 1000000 := Int.mul_le_mul (by omega) (by omega) (by have := hp.bd 0; omega) (by omega)
            refine CJ.seq fun _ hK16 _ => ?_
            refine CJ.seq fun _ hK17 _ => ?_
            refine CJ.region ?_
            refine J.p (PR.move rfl) rfl ?_
            refine J.p (PR.move rfl) rfl ?_
            refine J.p (PR.lenSlice u22 rfl rfl) rfl ?_
            refine J.p (PR.lss rfl rfl) rfl ?_
            refine J.nil ?_
            refine EJ.thenN (hK17 ?_)
            refine CJ.condD rfl (fun hc43 => ?_) (fun hc43 => ?_)
            ·
              refine CJ.skip ?_
              refine EJ.thenN (hK16 ?_)
              refine CJ.seq fun _ hK18 _ => ?_
              refine CJ.block ?_
              refine CJ.regionD foll0 (by kernel_rfl) ?_
              refine JS.op (PR.move rfl) rfl ?_
              refine JS.op (PR.move rfl) rfl ?_
              refine JS.op (PR.move rfl) rfl ?_
              refine JS.op (PR.idx1 u22 sz2 rfl rfl rfl (by omega) hds.sm) rfl ?_
              refine JS.op (PR.loadH rfl (hds _ (by omega)) pl2) rfl ?_
              refine JS.op (PR.rem rfl rfl (by decide) rfl) rfl ?_
              refine JS.op (PR.move rfl) rfl ?_
              refine JS.op (PR.idxA1 u88 sz3 rfl rfl rfl (by omega)) rfl ?_
              refine JS.op (PR.load rfl (.s (.s .z)) (by first | exact bytesC_get (by simp [*]; omega) | exact intsC_get (by simp [*]; omega)) pl3) rfl ?_
              refine JS.op (PR.mul rfl rfl (by first | exact nw _ (by omega) | rfl)) rfl ?_
              refine JS.op (PR.add rfl rfl (by first | exact nw _ (by omega) | rfl)) rfl ?_
              refine JS.op (PR.assign rfl) rfl ?_
              refine JS.nil ?_
              refine EJ.inN ?_
              refine EJ.thenN (hK18 ?_)
              refine CJ.region ?_
              refine J.p (PR.move rfl) rfl ?_
              refine J.p (PR.add rfl rfl (by first | exact nw _ (by omega) | rfl)) rfl ?_
              refine J.p (PR.assign rfl) rfl ?_
              refine J.nil ?_
              refine EJ.thenN ?_
              exact hAg1 (m + 1) (by omega) (by omega) 21 rfl rfl ⟨(vi (by omega)), ⟨(vi (by simp only [oin]; omega)), trivial⟩⟩ rfl rfl
            ·
              refine CJ.exit ?_
              refine EJ.thenE ?_
              refine EJ.thenE ?_
              refine EJ.inE ?_
              refine EJ.inN ?_
              refine EJ.thenN (hK7 ?_)
              refine CJ.region ?_
              refine J.p (PR.add rfl rfl (by first | exact nw _ (by omega) | rfl)) rfl ?_
              refine J.p (PR.move rfl) rfl ?_
              refine J.nil ?_
              refine EJ.thenN ?_
              exact hAg0 (k + 1) ⟨by omega, upto hhI (hit_q (by omega))⟩ (by omega) 36 rfl rfl ⟨rfl, ⟨(vi (odd_take ⟨h22, by omega⟩ (by omega))), trivial⟩⟩ rfl rfl
          ·
            refine CJ.skip ?_
            refine EJ.inN ?_
            refine EJ.thenN (hK7 ?_)
            refine CJ.region ?_
            refine J.p (PR.add rfl rfl (by first | exact nw _ (by omega) | rfl)) rfl ?_
            refine J.p (PR.move rfl) rfl ?_
            refine J.nil ?_
            refine EJ.thenN ?_
            exact hAg0 (k + 1) ⟨by omega, upto hhI (hit_q (by omega))⟩ (by omega) 27 rfl rfl ⟨rfl, ⟨(vi (odd_skip (fun h => by omega))), trivial⟩⟩ rfl rfl
      ·
        try have h27p := of_decide_eq_false h27
        refine J.gn rfl rfl rfl h27 ?_
        refine J.gn rfl rfl rfl h27 ?_
        refine J.gn rfl rfl rfl h27 ?_
        refine J.gn rfl rfl rfl h27 ?_
        refine J.p (PR.pickF rfl h27 rfl) rfl ?_
        refine J.nil ?_
        refine EJ.thenN (hK12 ?_)
        refine CJ.condF rfl ?_
        refine CJ.skip ?_
        refine EJ.thenN (hK11 ?_)
        refine CJ.seq fun _ hK19 _ => ?_
        refine CJ.region ?_
        refine J.p (PR.move rfl) rfl ?_
        refine J.p (PR.idxA1 u88 sz3 rfl rfl rfl (by omega)) rfl ?_
        refine J.p (PR.load rfl (.s .z) (by first | exact bytesC_get (by simp [*]; omega) | exact intsC_get (by simp [*]; omega)) pl3) rfl ?_
        refine J.p (PR.gtr rfl rfl) rfl ?_
        refine J.nil ?_
        refine EJ.thenN (hK19 ?_)
        refine CJ.condD rfl (fun h37 => ?_) (fun h37 => ?_)
        ·
          refine CJ.seq fun _ hK20 _ => ?_
          refine CJ.region ?_
          refine J.p (PR.move rfl) rfl ?_
          refine J.p (PR.add rfl rfl (by first | exact nw _ (by omega) | rfl)) rfl ?_
          refine J.p (PR.assign rfl) rfl ?_
          refine J.nil ?_
          refine EJ.thenN (hK20 ?_)
          refine CJ.block ?_
          refine CJ.loopU (σ := Nat) (fun (m : Nat) => [(11, .int .i64 ((k + 1 + m : Nat) : Int)), (8, .int .i64 (oddTo ds p q k + oin ds p k m))]) (fun (m : Nat) => H) (fun (m : Nat) => obj g6 (.cells (intsC (List.replicate 8 0)).toArray 88 (0, 0)) :: obj g5 (.cells (intsC q).toArray 88 (0, 0)) :: obj g3 (.cells (intsC p).toArray 88 (0, 0)) :: L) (fun (m : Nat) => k + 1 + m ≤ ds.length) (fun (m : Nat) => ds.length - (k + 1 + m)) 0 (by omega) ⟨(vi (by omega)), ⟨(vi (by simp [oin])), trivial⟩⟩ rfl rfl ?_
          rintro m hI _ hAg2
          have hm9 := hI
          have ob := oin_bd hd hp.bd k m
          have o2 := deg2 hd (k + 1 + m)
          have pb := hp.bd (k + 1 + m)
          have tp : 0 ≤ (ds.getD (k + 1 + m) 0).tmod 2 * p.getD (k + 1 + m) 0 ∧ (ds.getD (k + 1 + m) 0).tmod 2 * p.getD (k + 1 + m) 0 ≤ 1000000 := by rcases o2 with h | h <;> rw [h] <;> first | (rw [Int.zero_mul]; omega) | (rw [Int.one_mul]; omega)
          have mM : ((m : Nat) : Int) * Mp ≤ 8 * 1000000 := Int.mul_le_mul (by omega) (by omega) (by have := hp.bd 0; omega) (by omega)
          refine CJ.seq fun _ hK21 _ => ?_
          refine CJ.seq fun _ hK22 _ => ?_
          refine CJ.region ?_
          refine J.p (PR.move rfl) rfl ?_
          refine J.p (PR.move rfl) rfl ?_
          refine J.p (PR.lenSlice u22 rfl rfl) rfl ?_
          refine J.p (PR.lss rfl rfl) rfl ?_
          refine J.nil ?_
          refine EJ.thenN (hK22 ?_)
          refine CJ.condD rfl (fun hc43 => ?_) (fun hc43 => ?_)
          ·
            refine CJ.skip ?_
            refine EJ.thenN (hK21 ?_)
            refine CJ.seq fun _ hK23 _ => ?_
            refine CJ.block ?_
            refine CJ.regionD foll0 (by kernel_rfl) ?_
            refine JS.op (PR.move rfl) rfl ?_
            refine JS.op (PR.move rfl) rfl ?_
            refine JS.op (PR.move rfl) rfl ?_
            refine JS.op (PR.idx1 u22 sz2 rfl rfl rfl (by omega) hds.sm) rfl ?_
            refine JS.op (PR.loadH rfl (hds _ (by omega)) pl2) rfl ?_
            refine JS.op (PR.rem rfl rfl (by decide) rfl) rfl ?_
            refine JS.op (PR.move rfl) rfl ?_
            refine JS.op (PR.idxA1 u88 sz3 rfl rfl rfl (by omega)) rfl ?_
            refine JS.op (PR.load rfl (.s (.s .z)) (by first | exact bytesC_get (by simp [*]; omega) | exact intsC_get (by simp [*]; omega)) pl3) rfl ?_
            refine JS.op (PR.mul rfl rfl (by first | exact nw _ (by omega) | rfl)) rfl ?_
            refine JS.op (PR.add rfl rfl (by first | exact nw _ (by omega) | rfl)) rfl ?_
            refine JS.op (PR.assign rfl) rfl ?_
            refine JS.nil ?_
            refine EJ.inN ?_
            refine EJ.thenN (hK23 ?_)
            refine CJ.region ?_
            refine J.p (PR.move rfl) rfl ?_
            refine J.p (PR.add rfl rfl (by first | exact nw _ (by omega) | rfl)) rfl ?_
            refine J.p (PR.assign rfl) rfl ?_
            refine J.nil ?_
            refine EJ.thenN ?_
            exact hAg2 (m + 1) (by omega) (by omega) 21 rfl rfl ⟨(vi (by omega)), ⟨(vi (by simp only [oin]; omega)), trivial⟩⟩ rfl rfl
          ·
            refine CJ.exit ?_
            refine EJ.thenE ?_
            refine EJ.thenE ?_
            refine EJ.inE ?_
            refine EJ.inN ?_
            refine EJ.thenN (hK7 ?_)
            refine CJ.region ?_
            refine J.p (PR.add rfl rfl (by first | exact nw _ (by omega) | rfl)) rfl ?_
            refine J.p (PR.move rfl) rfl ?_
            refine J.nil ?_
            refine EJ.thenN ?_
            exact hAg0 (k + 1) ⟨by omega, upto hhI (hit_p h27p)⟩ (by omega) 36 rfl rfl ⟨rfl, ⟨(vi (odd_take ⟨h22, by omega⟩ (by omega))), trivial⟩⟩ rfl rfl
        ·
          refine CJ.skip ?_
          refine EJ.inN ?_
          refine EJ.thenN (hK7 ?_)
          refine CJ.region ?_
          refine J.p (PR.add rfl rfl (by first | exact nw _ (by omega) | rfl)) rfl ?_
          refine J.p (PR.move rfl) rfl ?_
          refine J.nil ?_
          refine EJ.thenN ?_
          exact hAg0 (k + 1) ⟨by omega, upto hhI (hit_p h27p)⟩ (by omega) 27 rfl rfl ⟨rfl, ⟨(vi (odd_skip (fun h => by omega))), trivial⟩⟩ rfl rfl
  ·
    refine CJ.exit ?_
    refine EJ.thenE ?_
    refine EJ.thenE ?_
    refine EJ.inE ?_
    refine EJ.thenN (hK3 ?_)
    refine CJ.seq fun _ hK24 _ => ?_
    refine CJ.seq fun _ hK25 _ => ?_
    refine CJ.region ?_
    refine J.p (PR.move rfl) rfl ?_
    refine J.nil ?_
    refine EJ.thenN (hK25 ?_)
    refine CJ.block ?_
    refine CJ.loopU (σ := Nat) (fun (i : Nat) => [(58, .int .i64 (i : Int))]) (fun (i : Nat) => H) (fun (i : Nat) => obj g6 (.cells (intsC (List.replicate 8 0)).toArray 88 (0, 0)) :: obj g5 (.cells (intsC q).toArray 88 (0, 0)) :: obj g3 (.cells (intsC (addTo p q i)).toArray 88 (0, 0)) :: L) (fun (i : Nat) => i ≤ 8) (fun (i : Nat) => 8 - i) 0 (by omega) ⟨rfl, trivial⟩ rfl (by rw [addTo_zero hp8]) ?_
    rintro i hI _ hAg3
    have hi := hI
    have pb := hp.bd i
    have qb := hq.bd i
    have ag : i < 8 → (addTo p q i).getD i 0 = p.getD i 0 := fun h => by rw [addTo_get h, if_neg (by omega)]
    refine CJ.seq fun _ hK26 _ => ?_
    refine CJ.region ?_
    refine J.p (PR.lss rfl rfl) rfl ?_
    refine J.nil ?_
    refine EJ.thenN (hK26 ?_)
    refine CJ.seq fun _ hK27 _ => ?_
    refine CJ.condD rfl (fun hc59 => ?_) (fun hc59 => ?_)
    ·
      refine CJ.skip ?_
      refine EJ.thenN (hK27 ?_)
      refine CJ.seq fun _ hK28 _ => ?_
      refine CJ.block ?_
      refine CJ.seq fun _ hK29 _ => ?_
      refine CJ.region ?_
      refine J.p (PR.move rfl) rfl ?_
      refine J.p (PR.assign rfl) rfl ?_
      refine J.nil ?_
      refine EJ.thenN (hK29 ?_)
      refine CJ.head [[], [0], [1], [], [3], [4]] (by kernel_rfl) ?_
      refine HJ.op (fun gh => PR.move rfl) ?_
      refine HJ.op (fun gh => PR.idxA1 u88 sz3 rfl rfl rfl (by omega)) ?_
      refine HJ.op (fun gh => PR.load rfl (.s (.s .z)) (by first | exact bytesC_get (by simp [*]; omega) | exact intsC_get (by simp [*]; omega)) pl3) ?_
      refine HJ.op (fun gh => PR.move rfl) ?_
      refine HJ.op (fun gh => PR.idxA1 u88 sz3 rfl rfl rfl (by omega)) ?_
      refine HJ.op (fun gh => PR.load rfl (.s .z) (by first | exact bytesC_get (by simp [*]; omega) | exact intsC_get (by simp [*]; omega)) pl3) ?_
      refine HJ.close 6 3 foll0 (by kernel_rfl) rfl rfl fun gh => ?_
      refine J.conv (us' := (61, _) :: (62, _) :: (63, _) :: (64, _) :: (65, _) :: (66, _) :: _) (L' := _) rfl rfl ?_
      refine J.p (PR.add rfl rfl (by first | exact nw _ (by omega) | rfl)) rfl ?_
      refine J.p (PR.idxA1 u88 sz3 rfl rfl rfl (by omega)) rfl ?_
      refine J.storeI rfl rfl sz3 (by simp [*]; omega) (.s (.s .z)) ?_
      refine J.nil ?_
      refine EJ.still ?_
      refine JS.nil ?_
      refine EJ.inN ?_
      refine EJ.thenN (hK28 ?_)
      refine CJ.region ?_
      refine J.p (PR.add rfl rfl (by first | exact nw _ (by omega) | rfl)) rfl ?_
      refine J.p (PR.move rfl) rfl ?_
      refine J.nil ?_
      refine EJ.thenN ?_
      exact hAg3 (i + 1) (by omega) (by omega) 14 rfl rfl ⟨rfl, trivial⟩ rfl (by simp only [ag (by omega), addTo_set (show i < 8 by omega)])
    ·
      refine CJ.exit ?_
      refine EJ.thenE ?_
      refine EJ.thenE ?_
      refine EJ.inE ?_
      refine EJ.thenN (hK24 ?_)
      refine CJ.seq fun _ hK30 _ => ?_
      refine CJ.seq fun _ hK31 _ => ?_
      refine CJ.region ?_
      refine J.p (PR.move rfl) rfl ?_
      refine J.p (PR.rem rfl rfl (by decide) rfl) rfl ?_
      refine J.p (PR.eql rfl rfl) rfl ?_
      refine J.nil ?_
      refine EJ.thenN (hK31 ?_)
      refine CJ.condD rfl (fun h72 => ?_) (fun h72 => ?_)
      ·
        refine CJ.seq fun _ hK32 _ => ?_
        refine CJ.region ?_
        refine J.p (PR.loadAll rfl (.s (.s .z)) (by simpa [*] using ag88)) rfl ?_
        refine J.storeAll rfl rfl (by first | exact bytesC_one _ | exact intsC_one _ | exact Term.c_one _ | simp [Value.oneCell']) (by simpa [*] using sz88) (by simp [*]) At.z ?_
        refine J.p (PR.assign rfl) rfl ?_
        refine J.nil ?_
        refine EJ.thenN (hK32 ?_)
        refine CJ.ret ?_
        refine EJ.thenR ?_
        refine EJ.ret2 rfl (Res.agg rfl At.z (by simpa [*] using ag88)) (Res.tmp rfl) fun w hH => ?_
        replace hH := hH.tail
        replace hH := hH.tail
        replace hH := hH.tail
        have hk9 : k = ds.length := by omega
        have hi9 : i = 8 := by omega
        subst hi9
        obtain ⟨e1, e2⟩ := sgn_free (p := p) (q := q) (fun j hj => hhI j (by omega))
        rw [hk9] at h72
        rw [e1, e2, addTo_end, if_pos h72]
        exact ⟨rfl, hH⟩
      ·
        refine CJ.skip ?_
        refine EJ.thenN (hK30 ?_)
        refine CJ.seq fun _ hK33 _ => ?_
        refine CJ.region ?_
        refine J.p (PR.loadAll rfl (.s (.s .z)) (by simpa [*] using ag88)) rfl ?_
        refine J.storeAll rfl rfl (by first | exact bytesC_one _ | exact intsC_one _ | exact Term.c_one _ | simp [Value.oneCell']) (by simpa [*] using sz88) (by simp [*]) At.z ?_
        refine J.p (PR.assign rfl) rfl ?_
        refine J.nil ?_
        refine EJ.thenN (hK33 ?_)
        refine CJ.ret ?_
        refine EJ.ret2 rfl (Res.agg rfl At.z (by simpa [*] using ag88)) (Res.tmp rfl) fun w hH => ?_
        replace hH := hH.tail
        replace hH := hH.tail
        replace hH := hH.tail
        have hk9 : k = ds.length := by omega
        have hi9 : i = 8 := by omega
        subst hi9
        obtain ⟨e1, e2⟩ := sgn_free (p := p) (q := q) (fun j hj => hhI j (by omega))
        rw [hk9] at h72
        rw [e1, e2, addTo_end, if_neg h72]
        exact ⟨rfl, hH⟩
end Go.Proofs.YtbjhllmcnfncdaaDoor.G
namespace Go.Proofs.YtbjhllmcnfncdaaDoor.G
open Go Go.RowKit
namespace Xf
theorem u108 : Tryd.prog.underlying 108 = some (TypeDesc.map 88 2) := by kernel_rfl
theorem u88 : Tryd.prog.underlying 88 = some (TypeDesc.array 8 3) := by kernel_rfl
theorem sz88 : Size Tryd.prog 88 8 := by unfold Size; kernel_rfl
theorem ze88 : Zero Tryd.prog 88 [.int .i64 0, .int .i64 0, .int .i64 0, .int .i64 0, .int .i64 0, .int .i64 0, .int .i64 0, .int .i64 0] := by unfold Zero; kernel_rfl
theorem ag88 : Agg Tryd.prog 88 8 := ⟨_, u88, rfl, by kernel_rfl⟩
theorem fn93 : Fn Tryd.prog 93 := ⟨_, Tryd.func93, by kernel_rfl, rfl⟩
theorem fn94 : Fn Tryd.prog 94 := ⟨_, Tryd.func94, by kernel_rfl, rfl⟩
end Xf
open Xf
theorem prodP_pok {M N : Int} {ds p q : Pw} (hp : Pok M p) (hq : Pok N q) : Pok (M + N) (prodP ds p q) := by
  unfold prodP
  split
  · refine ⟨by simp, fun j => ?_⟩
    have h1 := hp.bd 0
    have h2 := hq.bd 0
    have : (List.replicate 8 (0 : Int)).getD j 0 = 0 := by
      rw [List.getD_eq_getElem?_getD, List.getElem?_replicate]
      split <;> rfl
    rw [this]
    omega
  · exact hp.add hq
theorem prodP_of {ds p q : Pw} (h : sgn ds p q ≠ 0) : prodP ds p q = addp p q := by
  unfold prodP
  unfold sgn at h
  split
  · rename_i hh
    rw [if_pos hh] at h
    exact absurd rfl h
  · rfl
theorem mul_sb {a b A B : Int} (h1 : -A ≤ a ∧ a ≤ A) (h2 : 0 ≤ b ∧ b ≤ B) : -(A * B) ≤ a * b ∧ a * b ≤ A * B := by
  have hA : 0 ≤ A := by omega
  have e1 : A * b ≤ A * B := Int.mul_le_mul_of_nonneg_left h2.2 hA
  have e2 : a * b ≤ A * b := Int.mul_le_mul_of_nonneg_right h1.2 h2.1
  have e3 : -A * b ≤ a * b := Int.mul_le_mul_of_nonneg_right h1.1 h2.1
  rw [Int.neg_mul] at e3
  omega
theorem mul1_some {ds : Pw} {x y : Pw × Int} {l1 l2 R : Sm} (h : sgn ds x.1 y.1 ≠ 0) : (mul1 ds x (l1 ++ y :: l2) ++ R).Perm ((addp x.1 y.1, (sgn ds x.1 y.1 * x.2 * y.2).tmod 10007) :: (mul1 ds x (l1 ++ l2) ++ R)) := by
  have := mul1_mid (ds := ds) (x := x) (y := y) (l1 := l1) (l2 := l2)
  rw [if_neg h] at this
  exact List.Perm.append_right R this
theorem mul1_zero {ds : Pw} {x y : Pw × Int} {l1 l2 R : Sm} (h : sgn ds x.1 y.1 = 0) : (mul1 ds x (l1 ++ y :: l2) ++ R).Perm (mul1 ds x (l1 ++ l2) ++ R) := by
  have := mul1_mid (ds := ds) (x := x) (y := y) (l1 := l1) (l2 := l2)
  rw [if_pos h] at this
  exact List.Perm.append_right R this
theorem perm_to {α : Type} {a l l' m : List α} (h : (a ++ l).Perm m) (h2 : l.Perm l') : (a ++ l').Perm m := (List.Perm.append_left a h2.symm).trans h
set_option maxHeartbeats 4000000 in
set_option maxRecDepth 10000 in
theorem times_c {B : World} {H0 H : HP} {L : List SA} {w : World} {vs : Value} {Ms : Int} {s : Sm} {qds : Option Addr} {cds : Nat} {ds : List Int} {vt : Value} {Mt : Int} {t : Sm}  (hs : SumH H vs s) (ks : Sok Ms s) (hds : Ints H qds ds) (ht : SumH H vt t) (kt : Sok Mt t) (hn : ds.length ≤ 8) (hd : ∀ j, 0 ≤ ds.getD j 0 ∧ ds.getD j 0 ≤ 12) (hM : Ms + Mt ≤ 1000000) (hH : Hp B H0 H L w) :
    Calls Tryd.prog 82 [vs, .slice qds ds.length cds, vt].toArray w fun e w' => ∃ b, e = .returned (.map (some b)) ∧ Hp B H0 H (osum b (timesS ds s t) :: L) w' := by
  refine CJ.enter Tryd.func82 rfl 48 rfl rfl [(0, vs), (1, .slice qds ds.length cds), (2, vt)] rfl hH ?_
  clear hH
  obtain ⟨bs, ess, cls, rfl, hbs, hes⟩ := hs
  have hs : SumH H (.map (some bs)) s := ⟨bs, ess, cls, rfl, hbs, hes⟩
  obtain ⟨bt, est, clt, rfl, hbt, het⟩ := ht
  have ht : SumH H (.map (some bt)) t := ⟨bt, est, clt, rfl, hbt, het⟩
  refine CJ.seq fun _ hK1 _ => ?_
  refine CJ.region ?_
  refine J.p (PR.assign rfl) rfl ?_
  refine J.nil ?_
  refine EJ.thenN (hK1 ?_)
  refine CJ.seq fun _ hK2 _ => ?_
  refine CJ.region ?_
  refine J.makeMap pwE (Value.int .i64) pwOk rfl fun bm14 => ?_
  refine J.p (PR.assign rfl) rfl ?_
  refine J.nil ?_
  refine EJ.thenN (hK2 ?_)
  refine CJ.seq fun _ hK3 _ => ?_
  refine CJ.seq fun _ hK4 _ => ?_
  refine CJ.region ?_
  refine J.p (PR.move rfl) rfl ?_
  refine J.range u108 rfl hbs hes rfl fun r16 => ?_
  refine J.nil ?_
  refine EJ.thenN (hK4 ?_)
  refine CJ.block ?_
  refine CJ.loopU (σ := Option (Pw × Int) × Sm × Sm) (fun ⟨la, ls, dn⟩ => []) (fun ⟨la, ls, dn⟩ => H) (fun ⟨la, ls, dn⟩ => itr pwE (Value.int .i64) bs ess cls r16 la ls :: osum bm14 (acc [] dn) :: L) (fun ⟨la, ls, dn⟩ => (dn ++ mulL ds ls t).Perm (mulL ds s t) ∧ ∀ x ∈ ls, x ∈ s) (fun ⟨la, ls, dn⟩ => ls.length) (none, s, []) ⟨List.Perm.refl _, fun _ h => h⟩ trivial rfl rfl ?_
  rintro ⟨la, ls, dn⟩ hI _ hAg0
  have k0 : Sok (Ms + Mt) (acc [] dn) := Sok.nil.acc fun x hx => mulL_pok ks kt x (hI.1.mem_iff.1 (by simp [hx]))
  refine CJ.seq fun _ hK5 _ => ?_
  refine CJ.region ?_
  refine J.next rfl hbs hes (fun _ _ => At.z) rfl (fun hE17 => ?_) (fun nx17 la17 lb17 hL17 => ?_)
  ·
    refine J.p (PR.extract rfl rfl) rfl ?_
    refine J.nil ?_
    refine EJ.thenN (hK5 ?_)
    refine CJ.seq fun _ hK6 _ => ?_
    refine CJ.condF rfl ?_
    refine CJ.exit ?_
    refine EJ.thenE ?_
    refine EJ.thenE ?_
    refine EJ.inE ?_
    refine EJ.thenN (hK3 ?_)
    refine CJ.seq fun _ hK7 _ => ?_
    refine CJ.region ?_
    refine J.p (PR.move rfl) rfl ?_
    refine J.p (PR.assign rfl) rfl ?_
    refine J.nil ?_
    refine EJ.thenN (hK7 ?_)
    refine CJ.ret ?_
    refine EJ.ret1 rfl (Res.tmp rfl) fun w hH => ?_
    replace hH := hH.sublist (.cons _ (.cons_cons _ (List.Sublist.refl _)))
    have hp9 := perm_nil hI.1 (by rw [hE17]; rfl)
    have e9 : acc [] dn = timesS ds s t := acc_perm Sok.nil (fun x hx => mulL_pok ks kt x (hp9.mem_iff.1 hx)) hp9
    rw [e9] at hH
    exact ⟨_, rfl, hH⟩
  ·
    subst hL17
    have hu := hI.2 nx17 (by simp)
    have hup := ks.key nx17 hu
    have hu8 := hup.len
    have hv := ks.val nx17 hu
    have hu0 := hup.bd 0
    refine J.p (PR.extract rfl rfl) rfl ?_
    refine J.nil ?_
    refine EJ.thenN (hK5 ?_)
    refine CJ.seq fun _ hK8 _ => ?_
    refine CJ.condT rfl ?_
    refine CJ.skip ?_
    refine EJ.thenN (hK8 ?_)
    refine CJ.block ?_
    refine CJ.seq fun _ hK9 _ => ?_
    refine CJ.region ?_
    refine J.p (PR.entry rfl hbs hes At.z) rfl ?_
    refine J.p (PR.extract rfl rfl) rfl ?_
    refine J.p (PR.extract rfl rfl) rfl ?_
    refine J.alloc ze88 rfl fun g8 => ?_
    refine J.storeAll rfl rfl (by first | exact bytesC_one _ | exact intsC_one _ | exact Term.c_one _ | simp [Value.oneCell']) (by simpa [*] using sz88) (by simp [*]) At.z ?_
    refine J.p (PR.assign rfl) rfl ?_
    refine J.nil ?_
    refine EJ.thenN (hK9 ?_)
    refine CJ.seq fun _ hK10 _ => ?_
    refine CJ.region ?_
    refine J.p (PR.move rfl) rfl ?_
    refine J.range u108 rfl hbt het rfl fun r23 => ?_
    refine J.nil ?_
    refine EJ.thenN (hK10 ?_)
    refine CJ.block ?_
    refine CJ.loopU (σ := Option (Pw × Int) × Sm × Sm) (fun ⟨la2, ls2, dn2⟩ => []) (fun ⟨la2, ls2, dn2⟩ => H) (fun ⟨la2, ls2, dn2⟩ => itr pwE (Value.int .i64) bt est clt r23 la2 ls2 :: obj g8 (.cells (intsC nx17.1).toArray 88 (0, 0)) :: itr pwE (Value.int .i64) bs ess cls r16 (some nx17) (la17 ++ lb17) :: osum bm14 (acc [] dn2) :: L) (fun ⟨la2, ls2, dn2⟩ => (dn2 ++ (mul1 ds nx17 ls2 ++ mulL ds (la17 ++ lb17) t)).Perm (mulL ds s t) ∧ ∀ x ∈ ls2, x ∈ t) (fun ⟨la2, ls2, dn2⟩ => ls2.length) (none, t, dn) ⟨perm_to hI.1 mulL_mid, fun _ h => h⟩ trivial rfl rfl ?_
    rintro ⟨la2, ls2, dn2⟩ hI2 _ hAg1
    have k1 : Sok (Ms + Mt) (acc [] dn2) := Sok.nil.acc fun x hx => mulL_pok ks kt x (hI2.1.mem_iff.1 (by simp [hx]))
    refine CJ.seq fun _ hK11 _ => ?_
    refine CJ.region ?_
    refine J.next rfl hbt het (fun _ _ => At.z) rfl (fun hE24 => ?_) (fun nx24 la24 lb24 hL24 => ?_)
    ·
      refine J.p (PR.extract rfl rfl) rfl ?_
      refine J.nil ?_
      refine EJ.thenN (hK11 ?_)
      refine CJ.seq fun _ hK12 _ => ?_
      refine CJ.condF rfl ?_
      refine CJ.exit ?_
      refine EJ.thenE ?_
      refine EJ.thenE ?_
      refine EJ.inE ?_
      refine EJ.inN ?_
      refine EJ.thenN ?_
      refine EJ.drop .z ?_
      refine EJ.drop .z ?_
      exact hAg0 (some nx17, la17 ++ lb17, dn2) ⟨by have h9 := hI2.1; rw [hE24] at h9; exact h9, fun x hx => hI.2 x (by simp at hx ⊢; rcases hx with h | h <;> simp [h])⟩ (by simp) 11 rfl rfl trivial rfl rfl
    ·
      subst hL24
      have hu2 := hI2.2 nx24 (by simp)
      have hup2 := kt.key nx24 hu2
      have hu82 := hup2.len
      have hv2 := kt.val nx24 hu2
      have hu02 := hup2.bd 0
      have sb : -1 ≤ sgn ds nx17.1 nx24.1 ∧ sgn ds nx17.1 nx24.1 ≤ 1 := by rcases sgn_cases ds nx17.1 nx24.1 with h | h | h <;> omega
      have sb1 := mul_sb (b := nx17.2) (B := 10006) sb (by omega)
      have sb2 := mul_sb (b := nx24.2) (B := 10006) sb1 (by omega)
      have sb3 := tmod_bd (sgn ds nx17.1 nx24.1 * nx17.2 * nx24.2)
      have pp8 := (prodP_pok (ds := ds) hup hup2).len
      refine J.p (PR.extract rfl rfl) rfl ?_
      refine J.nil ?_
      refine EJ.thenN (hK11 ?_)
      refine CJ.seq fun _ hK13 _ => ?_
      refine CJ.condT rfl ?_
      refine CJ.skip ?_
      refine EJ.thenN (hK13 ?_)
      refine CJ.block ?_
      refine CJ.seq fun _ hK14 _ => ?_
      refine CJ.region ?_
      refine J.p (PR.entry rfl hbt het At.z) rfl ?_
      refine J.p (PR.extract rfl rfl) rfl ?_
      refine J.p (PR.extract rfl rfl) rfl ?_
      refine J.alloc ze88 rfl fun g10 => ?_
      refine J.storeAll rfl rfl (by first | exact bytesC_one _ | exact intsC_one _ | exact Term.c_one _ | simp [Value.oneCell']) (by simpa [*] using sz88) (by simp [*]) At.z ?_
      refine J.p (PR.assign rfl) rfl ?_
      refine J.nil ?_
      refine EJ.thenN (hK14 ?_)
      refine CJ.seq fun _ hK15 _ => ?_
      refine CJ.region ?_
      refine J.p (PR.loadAll rfl (.s (.s .z)) (by simpa [*] using ag88)) rfl ?_
      refine J.p (PR.move rfl) rfl ?_
      refine J.p (PR.loadAll rfl At.z (by simpa [*] using ag88)) rfl ?_
      refine J.call fn93 rfl rfl fun w hH => (timesP_c hup hds hup2 hn hd (by omega) hH).mono ?_
      rintro _ w ⟨rfl, hH⟩
      refine ⟨_, rfl, fun a hF => J.of hF hH ?_⟩
      refine J.p (PR.move rfl) rfl ?_
      refine J.p (PR.extract rfl rfl) rfl ?_
      refine J.p (PR.extract rfl rfl) rfl ?_
      refine J.alloc ze88 rfl fun g12 => ?_
      refine J.storeAll rfl rfl (by first | exact bytesC_one _ | exact intsC_one _ | exact Term.c_one _ | simp [Value.oneCell']) (by simpa [*] using sz88) (by simp [*]) At.z ?_
      refine J.p (PR.assign rfl) rfl ?_
      refine J.nil ?_
      refine EJ.thenN (hK15 ?_)
      refine CJ.seq fun _ hK16 _ => ?_
      refine CJ.region ?_
      refine J.p (PR.move rfl) rfl ?_
      refine J.p (PR.neq rfl rfl) rfl ?_
      refine J.nil ?_
      refine EJ.thenN (hK16 ?_)
      refine CJ.condD rfl (fun h37 => ?_) (fun h37 => ?_)
      ·
        have e37 := prodP_of h37
        refine CJ.region ?_
        refine J.p (PR.move rfl) rfl ?_
        refine J.p (PR.loadAll rfl At.z (by simpa [*] using ag88)) rfl ?_
        refine J.p (PR.move rfl) rfl ?_
        refine J.p (PR.move rfl) rfl ?_
        refine J.p (PR.mul rfl rfl (by first | exact nw _ (by omega) | rfl)) rfl ?_
        refine J.p (PR.move rfl) rfl ?_
        refine J.p (PR.mul rfl rfl (by first | exact nw _ (by omega) | rfl)) rfl ?_
        refine J.p (PR.rem rfl rfl (by decide) rfl) rfl ?_
        refine J.call fn94 rfl rfl fun w hH => (add_c k1 (prodP_pok hup hup2) (by omega) (by omega) (by omega) (hH.front (.s (.s (.s (.s (.s .z))))))).mono ?_
        rintro _ w ⟨rfl, hH⟩
        refine ⟨_, rfl, fun a hF => J.of hF hH ?_⟩
        refine J.nil ?_
        refine EJ.inN ?_
        refine EJ.thenN ?_
        refine EJ.drop (.s .z) ?_
        refine EJ.drop (.s .z) ?_
        refine EJ.front .z ?_
        refine EJ.front (.s (.s (.s .z))) ?_
        refine EJ.front (.s (.s (.s .z))) ?_
        refine EJ.front (.s (.s (.s .z))) ?_
        exact hAg1 (some nx24, la24 ++ lb24, dn2 ++ [(addp nx17.1 nx24.1, (sgn ds nx17.1 nx24.1 * nx17.2 * nx24.2).tmod 10007)]) ⟨rot _ _ _ hI2.1 (mul1_some h37), fun x hx => hI2.2 x (by simp at hx ⊢; rcases hx with h | h <;> simp [h])⟩ (by simp) 27 rfl rfl trivial rfl (by simp only [acc_one, e37])
      ·
        have e37 : sgn ds nx17.1 nx24.1 = 0 := Decidable.not_not.1 h37
        refine CJ.skip ?_
        refine EJ.inN ?_
        refine EJ.thenN ?_
        refine EJ.drop .z ?_
        refine EJ.drop .z ?_
        exact hAg1 (some nx24, la24 ++ lb24, dn2) ⟨perm_to hI2.1 (mul1_zero e37), fun x hx => hI2.2 x (by simp at hx ⊢; rcases hx with h | h <;> simp [h])⟩ (by simp) 18 rfl rfl trivial rfl rfl
end Go.Proofs.YtbjhllmcnfncdaaDoor.G
namespace Go.Proofs.YtbjhllmcnfncdaaDoor.G
open Go Go.RowKit
namespace Xg
theorem u108 : Tryd.prog.underlying 108 = some (TypeDesc.map 88 2) := by kernel_rfl
theorem u2 : Tryd.prog.underlying 2 = some (TypeDesc.int .i64) := by kernel_rfl
theorem u30 : Tryd.prog.underlying 30 = some (TypeDesc.slice 66) := by kernel_rfl
theorem u32 : Tryd.prog.underlying 32 = some (TypeDesc.struct #[{ name := "Terms", type := 30, offset := 0, embedded := false, tag := "", pkgPath := "", byteOffset := 0 }]) := by kernel_rfl
theorem u64 : Tryd.prog.underlying 64 = some (TypeDesc.array 8 5) := by kernel_rfl
theorem u66 : Tryd.prog.underlying 66 = some (TypeDesc.struct #[{ name := "Monomial", type := 64, offset := 0, embedded := false, tag := "", pkgPath := "", byteOffset := 0 }, { name := "Factor", type := 2, offset := 8, embedded := false, tag := "", pkgPath := "", byteOffset := 8 }]) := by kernel_rfl
theorem sz2 : Size Tryd.prog 2 1 := by unfold Size; kernel_rfl
theorem sz30 : Size Tryd.prog 30 1 := by unfold Size; kernel_rfl
theorem sz64 : Size Tryd.prog 64 8 := by unfold Size; kernel_rfl
theorem sz66 : Size Tryd.prog 66 9 := by unfold Size; kernel_rfl
theorem ze66 : Zero Tryd.prog 66 [.int .u8 0, .int .u8 0, .int .u8 0, .int .u8 0, .int .u8 0, .int .u8 0, .int .u8 0, .int .u8 0, .int .i64 0] := by unfold Zero; kernel_rfl
theorem pl2 : Plain Tryd.prog 2 := ⟨_, u2, rfl⟩
theorem pl30 : Plain Tryd.prog 30 := ⟨_, u30, rfl⟩
theorem ag64 : Agg Tryd.prog 64 8 := ⟨_, u64, rfl, by kernel_rfl⟩
theorem ag66 : Agg Tryd.prog 66 9 := ⟨_, u66, rfl, by kernel_rfl⟩
theorem fn58 : Fn Tryd.prog 58 := ⟨_, Tryd.func58, by kernel_rfl, rfl⟩
theorem foll0 : Tryd.prog.follows .mixedOrders = true := by kernel_rfl
end Xg
open Xg
theorem Mono.pok {m : List Int} (h : Mono m) : Pok 255 m := ⟨h.len, h.bd⟩
def toS (ts : List Term) : Sm := ts.map fun t => (t.mono, t.fac)
theorem toS_take {ts : List Term} {k : Nat} (hk : k < ts.length) : toS (ts.take (k + 1)) = toS (ts.take k) ++ [((tm ts k).mono, (tm ts k).fac)] := by
  rw [take_tm hk]
  simp [toS]
theorem toS_mem {ts : List Term} {x : Pw × Int} (h : x ∈ toS ts) : ∃ t ∈ ts, x = (t.mono, t.fac) := by
  obtain ⟨t, ht, rfl⟩ := List.mem_map.1 h
  exact ⟨t, ht, rfl⟩
theorem toS_put {ts : List Term} {k : Nat} {M : Int} (h : Sok M (toS ts)) (hk : k < ts.length) : (putM (toS (ts.take k)) (tm ts k).mono (tm ts k).fac).Perm (toS (ts.take (k + 1))) := by
  rw [toS_take hk]
  have hn := h.nodup
  have e0 : toS ts = toS (ts.take k) ++ toS (ts.drop k) := by
    rw [toS, toS, toS, ← List.map_append, List.take_append_drop]
  have hd : ts.drop k = tm ts k :: ts.drop (k + 1) := by
    rw [List.drop_eq_getElem_cons hk]
    simp [tm, List.getD_eq_getElem?_getD, List.getElem?_eq_getElem hk]
  have hne : ∀ x ∈ toS (ts.take k), x.1 ≠ (tm ts k).mono := fun x hx e => by
    rw [e0, hd, List.map_append, List.nodup_append] at hn
    refine hn.2.2 x.1 (List.mem_map.2 ⟨x, hx, rfl⟩) (tm ts k).mono ?_ e
    simp [toS]
  unfold putM
  rw [filt_ne hne]
  exact (List.perm_append_singleton _ _).symm
set_option maxRecDepth 10000 in
theorem sumOf_c {B : World} {H0 H : HP} {L : List SA} {w : World} {qts : Option Addr} {cts : Nat} {ts : List Term} {Mf : Int} (hts : Terms H qts ts) (hk : Sok Mf (toS ts)) (hl : ts.length ≤ 9223372036854775807) (hH : Hp B H0 H L w) :
    Calls Tryd.prog 73 [.agg [.slice qts ts.length cts].toArray].toArray w fun e w' => ∃ b, e = .returned (.map (some b)) ∧ Hp B H0 H (osum b (toS ts) :: L) w' := by
  refine CJ.enter Tryd.func73 rfl 22 rfl rfl [(0, .agg [.slice qts ts.length cts].toArray)] rfl hH ?_
  clear hH
  refine CJ.seq fun _ hK1 _ => ?_
  refine CJ.region ?_
  refine J.box rfl rfl rfl fun g1 => ?_
  refine J.p (PR.assign rfl) rfl ?_
  refine J.nil ?_
  refine EJ.thenN (hK1 ?_)
  refine CJ.seq fun _ hK2 _ => ?_
  refine CJ.region ?_
  refine J.makeMap pwE (Value.int .i64) pwOk rfl fun bm6 => ?_
  refine J.p (PR.assign rfl) rfl ?_
  refine J.nil ?_
  refine EJ.thenN (hK2 ?_)
  refine CJ.seq fun _ hK3 _ => ?_
  refine CJ.seq fun _ hK4 _ => ?_
  refine CJ.region ?_
  refine J.p (PR.fldA u32 rfl sz30 rfl) rfl ?_
  refine J.p (PR.load rfl (.s .z) rfl pl30) rfl ?_
  refine J.p (PR.lenSlice u30 rfl rfl) rfl ?_
  refine J.p (PR.move rfl) rfl ?_
  refine J.nil ?_
  refine EJ.thenN (hK4 ?_)
  refine CJ.block ?_
  refine CJ.loopU (σ := Nat) (fun (k : Nat) => [(10, .int .i64 (k : Int))]) (fun (k : Nat) => H) (fun (k : Nat) => osum bm6 (toS (ts.take k)) :: obj g1 (.cells [.slice qts ts.length cts].toArray 32 (0, 0)) :: L) (fun (k : Nat) => k ≤ ts.length) (fun (k : Nat) => ts.length - k) 0 (by omega) ⟨rfl, trivial⟩ rfl rfl ?_
  rintro k hI _ hAg0
  refine CJ.seq fun _ hK5 _ => ?_
  refine CJ.region ?_
  refine J.p (PR.lss rfl rfl) rfl ?_
  refine J.nil ?_
  refine EJ.thenN (hK5 ?_)
  refine CJ.seq fun _ hK6 _ => ?_
  refine CJ.condD rfl (fun hc11 => ?_) (fun hc11 => ?_)
  ·
    refine CJ.skip ?_
    refine EJ.thenN (hK6 ?_)
    refine CJ.seq fun _ hK7 _ => ?_
    refine CJ.block ?_
    refine CJ.seq fun _ hK8 _ => ?_
    refine CJ.region ?_
    refine J.p (PR.idx u30 sz66 rfl rfl rfl (by omega) hts.sm) rfl ?_
    refine J.p (PR.loadHagg rfl (hts.cell _ (by omega)) (hts.sm (i := k) (by omega)) (by rw [Term.c_length (hts.wf _ (by omega))]; exact ag66)) rfl ?_
    refine J.alloc (cs := (default : Term).c) ze66 rfl fun g5 => ?_
    refine J.stTerm rfl rfl sz66 zero_wf (hts.wf k (by omega)) At.z ?_
    refine J.nil ?_
    refine EJ.thenN (hK8 ?_)
    refine CJ.head [[], [], [1], [2], [], [4]] (by kernel_rfl) ?_
    refine HJ.op (fun gh => PR.move rfl) ?_
    refine HJ.op (fun gh => PR.fldA u66 rfl sz64 rfl) ?_
    refine HJ.op (fun gh => PR.ldMono rfl At.z (hts.wf k (by omega)) ag64) ?_
    refine HJ.call fn58 (fun gh => rfl) (fun w X hH => powerOf_c (hts.wf k (by omega)).mono hH) ?_
    refine HJ.op (fun gh => PR.fldA u66 rfl sz2 rfl) ?_
    refine HJ.op (fun gh => PR.ldFac rfl At.z (hts.wf k (by omega)) pl2) ?_
    refine HJ.close 6 1 foll0 (by kernel_rfl) rfl rfl fun gh => ?_
    refine J.conv (us' := (14, _) :: (15, _) :: (16, _) :: (17, _) :: (18, _) :: (19, _) :: _) (L' := _) rfl rfl ?_
    refine J.putP pwK u108 rfl rfl rfl (pwOk_of (Mono.pok (hts.wf k (by omega)).mono) (by decide)) (toS_put hk (by omega)) (.s .z) ?_
    refine J.nil ?_
    refine EJ.still ?_
    refine JS.nil ?_
    refine EJ.inN ?_
    refine EJ.thenN (hK7 ?_)
    refine CJ.region ?_
    refine J.p (PR.add rfl rfl (by first | exact nw _ (by omega) | rfl)) rfl ?_
    refine J.p (PR.move rfl) rfl ?_
    refine J.nil ?_
    refine EJ.thenN ?_
    refine EJ.drop .z ?_
    exact hAg0 (k + 1) (by omega) (by omega) 13 rfl rfl ⟨rfl, trivial⟩ rfl rfl
  ·
    refine CJ.exit ?_
    refine EJ.thenE ?_
    refine EJ.thenE ?_
    refine EJ.inE ?_
    refine EJ.thenN (hK3 ?_)
    refine CJ.seq fun _ hK9 _ => ?_
    refine CJ.region ?_
    refine J.p (PR.move rfl) rfl ?_
    refine J.p (PR.assign rfl) rfl ?_
    refine J.nil ?_
    refine EJ.thenN (hK9 ?_)
    refine CJ.ret ?_
    refine EJ.ret1 rfl (Res.tmp rfl) fun w hH => ?_
    replace hH := hH.sublist (.cons_cons _ (.cons _ (List.Sublist.refl _)))
    obtain rfl : k = ts.length := by omega
    rw [List.take_length] at hH
    exact ⟨_, rfl, hH⟩
end Go.Proofs.YtbjhllmcnfncdaaDoor.G
namespace Go.Proofs.YtbjhllmcnfncdaaDoor.G
open Go Go.RowKit
namespace Xh
theorem u115 : Tryd.prog.underlying 115 = some (TypeDesc.array 8 108) := by kernel_rfl
theorem u32 : Tryd.prog.underlying 32 = some (TypeDesc.struct #[{ name := "Terms", type := 30, offset := 0, embedded := false, tag := "", pkgPath := "", byteOffset := 0 }]) := by kernel_rfl
theorem u42 : Tryd.prog.underlying 42 = some (TypeDesc.slice 32) := by kernel_rfl
theorem u44 : Tryd.prog.underlying 44 = some (TypeDesc.struct #[{ name := "Degrees", type := 22, offset := 0, embedded := false, tag := "", pkgPath := "", byteOffset := 0 }, { name := "Images", type := 42, offset := 1, embedded := false, tag := "", pkgPath := "", byteOffset := 24 }]) := by kernel_rfl
theorem sz108 : Size Tryd.prog 108 1 := by unfold Size; kernel_rfl
theorem sz115 : Size Tryd.prog 115 8 := by unfold Size; kernel_rfl
theorem sz32 : Size Tryd.prog 32 1 := by unfold Size; kernel_rfl
theorem sz42 : Size Tryd.prog 42 1 := by unfold Size; kernel_rfl
theorem ze115 : Zero Tryd.prog 115 [.map none, .map none, .map none, .map none, .map none, .map none, .map none, .map none] := by unfold Zero; kernel_rfl
theorem bz115 : ∀ w, (Instr.build 115 #[]).run Tryd.prog w = .ok (.agg [.map none, .map none, .map none, .map none, .map none, .map none, .map none, .map none].toArray) w := fun _ => by kernel_rfl
theorem ze32 : Zero Tryd.prog 32 [.slice none 0 0] := by unfold Zero; kernel_rfl
theorem pl42 : Plain Tryd.prog 42 := ⟨_, u42, rfl⟩
theorem ag115 : Agg Tryd.prog 115 8 := ⟨_, u115, rfl, by kernel_rfl⟩
theorem ag32 : Agg Tryd.prog 32 1 := ⟨_, u32, rfl, by kernel_rfl⟩
theorem fn73 : Fn Tryd.prog 73 := ⟨_, Tryd.func73, by kernel_rfl, rfl⟩
end Xh
open Xh
def CellAt (H : HP) (b k : Nat) (v : Value) : Prop := cellO H (some ⟨b, 0, none⟩) k = some v
theorem CellAt.le {H H' : HP} {b k : Nat} {v : Value} (h : CellAt H b k v) (hle : Le H H') : CellAt H' b k v := cellO_le hle h
def imgs (bs : Nat → Nat) (ss : Nat → Sm) (n : Nat) : SA where
  fp := fun b => ∃ i, i < n ∧ b = bs i
  holds := fun h => ∀ i, i < n → ∃ es clock, h (bs i) = some (.map es clock) ∧ EntOk pwE (Value.int .i64) pwOk es clock (ss i)
  loc := fun h h' hb hh i hi => by
    obtain ⟨es, clock, h1, h2⟩ := hh i hi
    exact ⟨es, clock, by rw [← hb (bs i) ⟨i, hi, rfl⟩]; exact h1, h2⟩
def updN (bs : Nat → Nat) (n b : Nat) : Nat → Nat := fun i => if i = n then b else bs i
theorem imgs_H {bs : Nat → Nat} {ss : Nat → Sm} {n : Nat} {h : HP} (hh : (imgs bs ss n).holds h) {i : Nat} (hi : i < n) : SumH h (.map (some (bs i))) (ss i) := by
  obtain ⟨es, clock, h1, h2⟩ := hh i hi
  exact ⟨bs i, es, clock, rfl, h1, h2⟩
section
variable {P : Program} {ops : Array Oper} {Q : Exit → Act → World → Prop} {n : Nat} {B : World} {H0 H : HP} {rest : List Oper} {us : List (Nat × Value)} {L L' : List SA} {R : Act → World → Prop}
theorem EJ.im0 (bs : Nat → Nat) (ss : Nat → Sm) (k : EJ R n B H0 us H (imgs bs ss 0 :: L)) : EJ R n B H0 us H L := fun a w hF hH => k a w hF (hH.emp.reAt .z (fun i hi => by omega) fun b hb => by obtain ⟨i, hi, _⟩ := hb; omega)
theorem J.im0 (bs : Nat → Nat) (ss : Nat → Sm) (k : J P ops Q n B H0 rest us H (imgs bs ss 0 :: L)) : J P ops Q n B H0 rest us H L := fun a w hF hH => k a w hF (hH.emp.reAt .z (fun i hi => by omega) fun b hb => by obtain ⟨i, hi, _⟩ := hb; omega)
theorem EJ.imSnoc {b m : Nat} {s : Sm} {bs : Nat → Nat} {ss : Nat → Sm} (hs : ss m = s) (k : EJ R n B H0 us H (imgs (updN bs m b) ss (m + 1) :: L)) : EJ R n B H0 us H (osum b s :: imgs bs ss m :: L) := fun a w hF hH => by
  have h1 := hH.star
  obtain ⟨⟨hA, hC, _⟩, _⟩ := h1.objs (star (osum b s) (imgs bs ss m)) (by simp)
  refine k a w hF (h1.reAt .z (fun i hi => ?_) fun x hx => ?_)
  · by_cases e : i = m
    · obtain ⟨es, clock, h2, h3⟩ := hA
      exact ⟨es, clock, by simpa [updN, e] using h2, by rw [e, hs]; exact h3⟩
    · obtain ⟨es, clock, h2, h3⟩ := hC i (by omega)
      exact ⟨es, clock, by simpa [updN, e] using h2, h3⟩
  · obtain ⟨i, hi, rfl⟩ := hx
    by_cases e : i = m
    · left
      show updN bs m b i = b
      simp [updN, e]
    · right
      exact ⟨i, by omega, by simp [updN, e]⟩
theorem J.fixA {A : SA} (hr : Rm L A L') (k : ∀ H', Le H H' → A.holds H' → J P ops Q n B H0 rest us H' L') : J P ops Q n B H0 rest us H L := fun a w hF hH => hH.lend hr fun H' h1 h2 _ h4 => k H' h1 h2 a w hF h4
theorem EJ.fixA {A : SA} (hr : Rm L A L') (k : ∀ H', Le H H' → A.holds H' → EJ R n B H0 us H' L') : EJ R n B H0 us H L := fun a w hF hH => hH.lend hr fun H' h1 h2 _ h4 => k H' h1 h2 a w hF h4
end
def imgK (bs : Nat → Nat) (k : Nat) : List Value := (List.range 8).map fun i => if i < k then .map (some (bs i)) else .map none
@[simp] theorem imgK_len (bs : Nat → Nat) (k : Nat) : (imgK bs k).length = 8 := by simp [imgK]
theorem imgK_one (bs : Nat → Nat) (k : Nat) : ∀ u ∈ imgK bs k, u.oneCell' = true := by
  intro u hu
  obtain ⟨i, _, rfl⟩ := List.mem_map.1 hu
  split <;> rfl
theorem imgK_get {bs : Nat → Nat} {k i : Nat} (h : i < 8) (hk : i < k) : (imgK bs k)[i]? = some (.map (some (bs i))) := by
  simp [imgK, h, hk]
theorem imgK_zero (bs : Nat → Nat) : imgK bs 0 = [.map none, .map none, .map none, .map none, .map none, .map none, .map none, .map none] := by
  simp [imgK]
  rfl
theorem imgK_set {bs : Nat → Nat} {k b : Nat} (hk : k < 8) : (imgK bs k).set k (.map (some b)) = imgK (updN bs k b) (k + 1) := by
  apply List.ext_getElem?
  intro i
  rcases Nat.lt_or_ge i 8 with hi | hi
  · by_cases e : k = i
    · subst e
      rw [List.getElem?_set_self (by simp [hk])]
      simp [imgK, hi, updN]
    · rw [List.getElem?_set_ne e]
      have : (i < k + 1) ↔ i < k := by omega
      simp [imgK, hi, updN, this, Ne.symm e]
  · rw [List.getElem?_eq_none (by simp; omega), List.getElem?_eq_none (by simp; omega)]
def Fok (M : Int) (fs : List (List Term)) : Prop := ∀ i, i < fs.length → Sok M (toS (fm fs i)) ∧ (fm fs i).length ≤ 9223372036854775807
set_option maxRecDepth 10000 in
theorem images_c {B : World} {H0 H : HP} {L : List SA} {w : World} {ba : Nat} {qad qaf : Option Addr} {cad caf : Nat} {ad : List Int} {af : List (List Term)} {Mi : Int} (pad : CellAt H ba 0 (.slice qad ad.length cad)) (paf : CellAt H ba 1 (.slice qaf af.length caf)) (had : Ints H qad ad) (haf : Forms H qaf af) (hf : Fok Mi af) (hn : af.length ≤ 8) (hH : Hp B H0 H L w) :
    Calls Tryd.prog 81 [.pointer (some ⟨ba, 0, none⟩)].toArray w fun e w' => ∃ bs : Nat → Nat, e = .returned (.agg (imgK bs af.length).toArray) ∧ Hp B H0 H (imgs bs (fun i => toS (fm af i)) af.length :: L) w' := by
  refine CJ.enter Tryd.func81 rfl 23 rfl rfl [(0, .pointer (some ⟨ba, 0, none⟩))] rfl hH ?_
  clear hH
  refine CJ.seq fun _ hK1 _ => ?_
  refine CJ.region ?_
  refine J.alloc ze115 rfl fun g2 => ?_
  refine J.nil ?_
  refine EJ.thenN (hK1 ?_)
  refine CJ.seq fun _ hK2 _ => ?_
  refine CJ.region ?_
  refine J.p (PR.buildZ bz115) rfl ?_
  refine J.alloc ze115 rfl fun g3 => ?_
  refine J.storeAll rfl rfl (by simp [Value.oneCell']) sz115 (by simp) .z ?_
  refine J.im0 (fun _ => 0) (fun i => toS (fm af i)) ?_
  refine J.nil ?_
  refine EJ.thenN (hK2 ?_)
  refine CJ.seq fun _ hK3 _ => ?_
  refine CJ.seq fun _ hK4 _ => ?_
  refine CJ.region ?_
  refine J.p (PR.move rfl) rfl ?_
  refine J.p (PR.nilCheck rfl) rfl ?_
  refine J.p (PR.fldA u44 rfl sz42 rfl) rfl ?_
  refine J.p (PR.loadH (q := some ⟨ba, 0, none⟩) (k := 1) rfl paf pl42) rfl ?_
  refine J.p (PR.lenSlice u42 rfl rfl) rfl ?_
  refine J.p (PR.move rfl) rfl ?_
  refine J.nil ?_
  refine EJ.thenN (hK4 ?_)
  refine CJ.block ?_
  refine CJ.loopU (σ := Nat × (Nat → Nat)) (fun ⟨k, bs⟩ => [(12, .int .i64 (k : Int))]) (fun ⟨k, bs⟩ => H) (fun ⟨k, bs⟩ => imgs bs (fun i => toS (fm af i)) k :: obj g3 (.cells (imgK bs k).toArray 115 (0, 0)) :: obj g2 (.cells (imgK (fun _ => 0) 0).toArray 115 (0, 0)) :: L) (fun ⟨k, bs⟩ => k ≤ af.length) (fun ⟨k, bs⟩ => af.length - k) (0, fun _ => 0) (by omega) ⟨rfl, trivial⟩ rfl (by simp only [imgK_zero]) ?_
  rintro ⟨k, bs⟩ hI _ hAg0
  have hk := hI
  refine CJ.seq fun _ hK5 _ => ?_
  refine CJ.region ?_
  refine J.p (PR.lss rfl rfl) rfl ?_
  refine J.nil ?_
  refine EJ.thenN (hK5 ?_)
  refine CJ.seq fun _ hK6 _ => ?_
  refine CJ.condD rfl (fun hc13 => ?_) (fun hc13 => ?_)
  ·
    refine CJ.skip ?_
    refine EJ.thenN (hK6 ?_)
    refine CJ.seq fun _ hK7 _ => ?_
    refine CJ.block ?_
    refine CJ.seq fun _ hK8 _ => ?_
    refine CJ.region ?_
    refine J.p (PR.move rfl) rfl ?_
    refine J.p (PR.idx1 u42 sz32 rfl rfl rfl (by omega) haf.sm) rfl ?_
    obtain ⟨qe16, ce16, he16, le16, Fe16⟩ := haf k (by omega)
    refine J.p (PR.loadHagg (cs := [_]) rfl (one_cell he16) (haf.sm (i := k) (by omega)) ag32) rfl ?_
    refine J.alloc ze32 rfl fun g5 => ?_
    refine J.p (PR.assign rfl) rfl ?_
    refine J.storeAll rfl rfl (by first | exact bytesC_one _ | exact intsC_one _ | exact Term.c_one _ | simp [Value.oneCell']) (by simpa [*] using sz32) (by simp [*]) At.z ?_
    refine J.nil ?_
    refine EJ.thenN (hK8 ?_)
    refine CJ.region ?_
    refine J.p (PR.move rfl) rfl ?_
    refine J.p (PR.loadAll rfl At.z (by simpa [*] using ag32)) rfl ?_
    refine J.call fn73 rfl rfl fun w hH => (sumOf_c Fe16 (hf k (by omega)).1 (hf k (by omega)).2 hH).mono ?_
    rintro _ w ⟨bo19, rfl, hH⟩
    refine ⟨_, rfl, fun a hF => J.of hF hH ?_⟩
    refine J.p (PR.idxA1 u115 sz108 rfl rfl rfl (by omega)) rfl ?_
    refine J.store rfl rfl rfl rfl sz108 (by simp; omega) (.s (.s (.s .z))) ?_
    refine J.nil ?_
    refine EJ.inN ?_
    refine EJ.thenN (hK7 ?_)
    refine CJ.region ?_
    refine J.p (PR.add rfl rfl (by first | exact nw _ (by omega) | rfl)) rfl ?_
    refine J.p (PR.move rfl) rfl ?_
    refine J.nil ?_
    refine EJ.thenN ?_
    refine EJ.front (.s (.s (.s (.s .z)))) ?_
    refine EJ.front (.s (.s (.s (.s .z)))) ?_
    refine EJ.front (.s (.s (.s .z))) ?_
    refine EJ.front (.s (.s (.s (.s .z)))) ?_
    refine EJ.front (.s (.s (.s (.s .z)))) ?_
    refine EJ.imSnoc rfl ?_
    refine EJ.drop (.s .z) ?_
    exact hAg0 (k + 1, updN bs k bo19) (show k + 1 ≤ af.length by omega) (show af.length - (k + 1) < af.length - k by omega) 13 rfl rfl ⟨rfl, trivial⟩ rfl (by simp only [imgK_set (show k < 8 by omega)])
  ·
    refine CJ.exit ?_
    refine EJ.thenE ?_
    refine EJ.thenE ?_
    refine EJ.inE ?_
    refine EJ.thenN (hK3 ?_)
    refine CJ.seq fun _ hK9 _ => ?_
    refine CJ.region ?_
    refine J.p (PR.loadAll rfl (.s .z) (by simpa using ag115)) rfl ?_
    refine J.storeAll rfl rfl (imgK_one _ _) (by simpa using sz115) (by simp) (.s (.s .z)) ?_
    refine J.nil ?_
    refine EJ.thenN (hK9 ?_)
    refine CJ.ret ?_
    refine EJ.ret1 rfl (Res.agg rfl (.s (.s .z)) (by simpa using ag115)) fun w hH => ?_
    replace hH := hH.sublist (.cons_cons _ (.cons _ (.cons _ (List.Sublist.refl _))))
    obtain rfl : k = af.length := by omega
    exact ⟨bs, rfl, hH⟩
end Go.Proofs.YtbjhllmcnfncdaaDoor.G
