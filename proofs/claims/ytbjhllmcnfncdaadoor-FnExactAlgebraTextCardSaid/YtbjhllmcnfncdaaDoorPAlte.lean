/- A part of the walk of one law: what the functions compute. No condition. -/
import Derived.Test.YtbjhllmcnfncdaaDoorRows
import Derived.Test.YtbjhllmcnfncdaaDoorProg
import Derived.WalkKit
import Derived.KernelRfl
import Derived.JoinedOf
import Derived.Maps.AppendAt
import Derived.Still
import Derived.ProofKit
import Derived.OpenShut
import Derived.StillTail
import Derived.Deep.Upon
import Derived.WalkSpells
import Derived.Maps.Range
import Derived.Laws.Concat
import Derived.Laws.IdiomStrings
import Derived.Laws.Strings
import Derived.Lib.ItoaNum
import Derived.Lib.Join
import Derived.Lib.LaidTab
import Derived.DeepKeys4
import Derived.Shelf.Strings.Builder1
import Derived.Shelf.Strings.Builder2
import Derived.Shelf.Strings.OnBuilder
import Derived.Shelf.Strings.BuilderF
import Derived.Shelf.Strings.BuilderK
import Derived.Shelf.Strconv.Itoa0
import Derived.Shelf.Strconv.Itoa1
import Derived.Shelf.LaysM
import Derived.Shelf.Strconv.Itoa2
import Derived.Shelf.Strconv.Itoa3
import Derived.Shelf.Strconv.Itoa4
import Derived.Lib.AppendIntMem
import Derived.Test.YtbjhllmcnfncdaaDoorCards
import Derived.Test.YtbjhllmcnfncdaaDoorTie
import Derived.LaidMore
import Derived.Stop.Joined
import Derived.Stop.LaidErr
import Derived.SevenTiedAt
import Derived.MakeChecks
import Derived.ChangeOld
import Derived.Below
import Derived.SizedLaws
import Derived.Test.YtbjhllmcnfncdaaDoorPAltd
set_option linter.unusedVariables false
set_option linter.unusedSimpArgs false
namespace Go.Proofs.YtbjhllmcnfncdaaDoor.G
open Go Go.RowKit
namespace Xm
theorem u2 : Tryd.prog.underlying 2 = some (TypeDesc.int .i64) := by kernel_rfl
theorem u30 : Tryd.prog.underlying 30 = some (TypeDesc.slice 66) := by kernel_rfl
theorem u32 : Tryd.prog.underlying 32 = some (TypeDesc.struct #[{ name := "Terms", type := 30, offset := 0, embedded := false, tag := "", pkgPath := "", byteOffset := 0 }]) := by kernel_rfl
theorem u64 : Tryd.prog.underlying 64 = some (TypeDesc.array 8 5) := by kernel_rfl
theorem u66 : Tryd.prog.underlying 66 = some (TypeDesc.struct #[{ name := "Monomial", type := 64, offset := 0, embedded := false, tag := "", pkgPath := "", byteOffset := 0 }, { name := "Factor", type := 2, offset := 8, embedded := false, tag := "", pkgPath := "", byteOffset := 8 }]) := by kernel_rfl
theorem sz2 : Size Tryd.prog 2 1 := by unfold Size; kernel_rfl
theorem sz30 : Size Tryd.prog 30 1 := by unfold Size; kernel_rfl
theorem sz32 : Size Tryd.prog 32 1 := by unfold Size; kernel_rfl
theorem sz64 : Size Tryd.prog 64 8 := by unfold Size; kernel_rfl
theorem sz66 : Size Tryd.prog 66 9 := by unfold Size; kernel_rfl
theorem by66 : Bytes Tryd.prog 66 16 := by unfold Bytes; kernel_rfl
theorem bz32 : ∀ w, (Instr.build 32 #[]).run Tryd.prog w = .ok (.agg [.slice none 0 0].toArray) w := fun _ => by kernel_rfl
theorem ze32 : Zero Tryd.prog 32 [.slice none 0 0] := by unfold Zero; kernel_rfl
theorem ze66 : Zero Tryd.prog 66 [.int .u8 0, .int .u8 0, .int .u8 0, .int .u8 0, .int .u8 0, .int .u8 0, .int .u8 0, .int .u8 0, .int .i64 0] := by unfold Zero; kernel_rfl
theorem pl2 : Plain Tryd.prog 2 := ⟨_, u2, rfl⟩
theorem pl30 : Plain Tryd.prog 30 := ⟨_, u30, rfl⟩
theorem ag32 : Agg Tryd.prog 32 1 := ⟨_, u32, rfl, by kernel_rfl⟩
theorem ag64 : Agg Tryd.prog 64 8 := ⟨_, u64, rfl, by kernel_rfl⟩
theorem ag66 : Agg Tryd.prog 66 9 := ⟨_, u66, rfl, by kernel_rfl⟩
theorem fn51 : Fn Tryd.prog 51 := ⟨_, Tryd.func51, by kernel_rfl, rfl⟩
theorem fn69 : Fn Tryd.prog 69 := ⟨_, Tryd.func69, by kernel_rfl, rfl⟩
theorem bt66 : ∀ (m : List Int) (f : Int), m.length = 8 → ∀ w, (Instr.build 66 #[(0, .agg (bytesC m).toArray), (1, .int .i64 f)]).run Tryd.prog w = .ok (.agg ((⟨m, f⟩ : Term).c).toArray) w := fun m f hm w => by
  obtain ⟨a0, a1, a2, a3, a4, a5, a6, a7, rfl⟩ := list8_ex hm
  kernel_rfl
theorem foll0 : Tryd.prog.follows .mixedOrders = true := by kernel_rfl
end Xm
open Xm
set_option maxHeartbeats 8000000 in
set_option maxRecDepth 10000 in
theorem l01Add_c {B : World} {H0 H : HP} {L : List SA} {w : World} {qf : Option Addr} {cf : Nat} {f : List Term} {qg : Option Addr} {cg : Nat} {g : List Term} {k : Int} {M : Int} (hf : Terms H qf f) (hg : Terms H qg g) (hsf : Sok M (toS f)) (hsg : Gok M (toS g)) (hM : M ≤ 255) (hk : 0 ≤ k ∧ k ≤ 10006) (hl : f.length + g.length ≤ 1000000000) (hH : Hp B H0 H L w) :
    Calls Tryd.prog 68 [.agg [.slice qf f.length cf].toArray, .agg [.slice qg g.length cg].toArray, .int .i64 k].toArray w fun e w' => ∃ q c, e = .returned (.agg [.slice q (ofS (acc (toS f) (scl (toS g) k))).length c].toArray) ∧ Hp B H0 H (own 66 9 q (ofS (acc (toS f) (scl (toS g) k))).length c (tsC (ofS (acc (toS f) (scl (toS g) k)))) :: L) w' := by
  refine CJ.enter Tryd.func68 rfl 149 rfl rfl [(0, .agg [.slice qf f.length cf].toArray), (1, .agg [.slice qg g.length cg].toArray), (2, .int .i64 k)] rfl hH ?_
  clear hH
  have hmw := mrg_wf (k := k) hsf hsg hM
  refine CJ.seq fun _ hK1 _ => ?_
  refine CJ.region ?_
  refine J.box rfl rfl rfl fun g3 => ?_
  refine J.box rfl rfl rfl fun g4 => ?_
  refine J.alloc ze32 rfl fun g6 => ?_
  refine J.nil ?_
  refine EJ.thenN (hK1 ?_)
  refine CJ.seq fun _ hK2 _ => ?_
  refine CJ.region ?_
  refine J.own0 66 9 ?_
  refine J.p (PR.buildZ bz32) rfl ?_
  refine J.alloc ze32 rfl fun g7 => ?_
  refine J.storeAll rfl rfl (by first | exact bytesC_one _ | exact intsC_one _ | exact Term.c_one _ | simp [Value.oneCell']) (by simpa [*] using sz32) (by simp [*]) At.z ?_
  refine J.nil ?_
  refine EJ.thenN (hK2 ?_)
  refine CJ.seq fun _ hK3 _ => ?_
  refine CJ.region ?_
  refine J.p (PR.assign rfl) rfl ?_
  refine J.p (PR.assign rfl) rfl ?_
  refine J.nil ?_
  refine EJ.thenN (hK3 ?_)
  refine CJ.seq fun _ hK4 _ => ?_
  refine CJ.block ?_
  refine CJ.loopU (σ := Option Addr × Nat × List Term × Nat × Nat) (fun ⟨q, c, O, i, j⟩ => [(8, .int .i64 (i : Int)), (9, .int .i64 (j : Int))]) (fun ⟨q, c, O, i, j⟩ => H) (fun ⟨q, c, O, i, j⟩ => obj g7 (.cells [.slice q (O).length c].toArray 32 (0, 0)) :: own 66 9 q (O).length c (tsC (O)) :: obj g6 (.cells [.slice none 0 0].toArray 32 (0, 0)) :: obj g4 (.cells [.slice qg g.length cg].toArray 32 (0, 0)) :: obj g3 (.cells [.slice qf f.length cf].toArray 32 (0, 0)) :: L) (fun ⟨q, c, O, i, j⟩ => i ≤ f.length ∧ j ≤ g.length ∧ MgAt k f g O i j) (fun ⟨q, c, O, i, j⟩ => f.length + g.length - (i + j)) (none, 0, [], 0, 0) ⟨by omega, by omega, rfl⟩ ⟨rfl, ⟨rfl, trivial⟩⟩ rfl rfl ?_
  rintro ⟨q, c, O, i, j⟩ ⟨hi, hj, hO⟩ _ hAg0
  have hOl := hO.len
  have hOw : Wfs O := hO.wf hmw
  have fb0 := fld_bd (k * (tm g j).fac)
  have kb0 : j < g.length → -(10006 * 10006) ≤ k * (tm g j).fac ∧ k * (tm g j).fac ≤ 10006 * 10006 := fun h => mul_sb (by omega) (hsg.val _ (toS_at (ts := g) h))
  refine CJ.seq fun _ hK5 _ => ?_
  refine CJ.seq fun _ hK6 _ => ?_
  refine CJ.region ?_
  refine J.p (PR.move rfl) rfl ?_
  refine J.p (PR.fldA u32 rfl sz30 rfl) rfl ?_
  refine J.p (PR.load rfl (.s (.s (.s (.s .z)))) rfl pl30) rfl ?_
  refine J.p (PR.lenSlice u30 rfl rfl) rfl ?_
  refine J.p (PR.lss rfl rfl) rfl ?_
  refine J.p (PR.move rfl) rfl ?_
  refine J.splitB (jd := 18) rfl (fun hg18 => ?_) (fun hg18 => ?_)
  ·
    try have hg18p := of_decide_eq_true hg18
    refine J.gn rfl rfl rfl hg18 ?_
    refine J.gn rfl rfl rfl hg18 ?_
    refine J.gn rfl rfl rfl hg18 ?_
    refine J.gn rfl rfl rfl hg18 ?_
    refine J.gn rfl rfl rfl hg18 ?_
    refine J.p (PR.pickT rfl hg18 rfl) rfl ?_
    refine J.nil ?_
    refine EJ.thenN (hK6 ?_)
    refine CJ.condT rfl ?_
    refine CJ.skip ?_
    refine EJ.thenN (hK5 ?_)
    refine CJ.block ?_
    refine CJ.block ?_
    refine CJ.seq fun _ hK7 _ => ?_
    refine CJ.head [[], [], [1], [2], [0, 3], [4], [5], [5], [7, 5], [8, 5], [6, 9, 5], [10, 5], [11], [12, 11], [11], [13, 14, 11], [15, 11], [16, 11], [11], [18, 11], [11], [19, 20, 11], [21, 11], [22, 11]] (by kernel_rfl) ?_
    refine HJ.op (fun gh => PR.move rfl) ?_
    refine HJ.op (fun gh => PR.fldA u32 rfl sz30 rfl) ?_
    refine HJ.op (fun gh => PR.load rfl (.s (.s (.s .z))) rfl pl30) ?_
    refine HJ.op (fun gh => PR.lenSlice u30 rfl rfl) ?_
    refine HJ.op (fun gh => PR.eql rfl rfl) ?_
    refine HJ.op (fun gh => PR.move rfl) ?_
    refine HJ.splitB 5 rfl (fun h67 => ?_) (fun h67 => ?_)
    ·
      try have h67p := of_decide_eq_true h67
      refine HJ.gn rfl (fun gh => rfl) h67 ?_
      refine HJ.gn rfl (fun gh => rfl) h67 ?_
      refine HJ.gn rfl (fun gh => rfl) h67 ?_
      refine HJ.gn rfl (fun gh => rfl) h67 ?_
      refine HJ.gn rfl (fun gh => rfl) h67 ?_
      refine HJ.gn rfl (fun gh => rfl) h67 ?_
      refine HJ.gu rfl (fun gh => rfl) ?_
      refine HJ.gu rfl (fun gh => rfl) ?_
      refine HJ.gu rfl (fun gh => rfl) ?_
      refine HJ.gu rfl (fun gh => rfl) ?_
      refine HJ.gu rfl (fun gh => rfl) ?_
      refine HJ.gu rfl (fun gh => rfl) ?_
      refine HJ.gu rfl (fun gh => rfl) ?_
      refine HJ.gu rfl (fun gh => rfl) ?_
      refine HJ.gu rfl (fun gh => rfl) ?_
      refine HJ.gu rfl (fun gh => rfl) ?_
      refine HJ.gu rfl (fun gh => rfl) ?_
      refine HJ.gu rfl (fun gh => rfl) ?_
      refine HJ.close 24 1 foll0 (by kernel_rfl) rfl rfl fun gh => ?_
      refine J.conv (us' := (62, _) :: (63, _) :: (64, _) :: (65, _) :: (66, _) :: (67, _) :: (68, _) :: (69, _) :: (70, _) :: (71, _) :: (72, _) :: (73, _) :: (74, _) :: (75, _) :: (76, _) :: (77, _) :: (78, _) :: (79, _) :: (80, _) :: (81, _) :: (82, _) :: (83, _) :: (84, _) :: (85, _) :: _) (L' := _) rfl rfl ?_
      refine J.gu rfl rfl rfl ?_
      refine J.nil ?_
      refine EJ.still ?_
      refine JS.gn rfl rfl rfl h67 ?_
      refine JS.op (PR.pickT rfl h67 rfl) rfl ?_
      refine JS.op (PR.assign rfl) rfl ?_
      refine JS.nil ?_
      refine EJ.thenN (hK7 ?_)
      refine CJ.condT rfl ?_
      refine CJ.seq fun _ hK8 _ => ?_
      refine CJ.head [[], [0], [], [2], [], [3, 4], [5], [6]] (by kernel_rfl) ?_
      refine HJ.op (fun gh => PR.fldA u32 rfl sz30 rfl) ?_
      refine HJ.op (fun gh => PR.load rfl At.z rfl pl30) ?_
      refine HJ.op (fun gh => PR.fldA u32 rfl sz30 rfl) ?_
      refine HJ.op (fun gh => PR.load rfl (.s (.s (.s (.s .z)))) rfl pl30) ?_
      refine HJ.op (fun gh => PR.move rfl) ?_
      refine HJ.op (fun gh => PR.idx u30 sz66 rfl rfl rfl (by omega) hf.sm) ?_
      refine HJ.op (fun gh => PR.loadHagg rfl (hf.cell _ (by omega)) (hf.sm (i := i) (by omega)) (by rw [Term.c_length (hf.wf _ (by omega))]; exact ag66)) ?_
      refine HJ.mk (fun gh => MK.lit1T u30 ze66 sz66 (hf.wf i (by omega)) rfl) ?_
      refine HJ.close 8 3 foll0 (by kernel_rfl) rfl rfl fun gh => ?_
      refine J.conv (us' := (89, _) :: (90, _) :: (91, _) :: (92, _) :: (93, _) :: (94, _) :: (95, _) :: (96, _) :: _) (L' := _ :: _) rfl rfl ?_
      refine J.appendOT u30 ze66 sz66 by66 rfl rfl (by simp only [List.length_cons, List.length_nil]; omega) .z (.s .z) (fun _ _ => (.s .z)) rfl fun qo97 co97 => ?_
      refine J.p (PR.fldA u32 rfl sz30 rfl) rfl ?_
      refine J.store rfl rfl rfl rfl sz30 (by simp [*]) (.s .z) ?_
      refine J.nil ?_
      refine EJ.still ?_
      refine JS.nil ?_
      refine EJ.thenN (hK8 ?_)
      refine CJ.region ?_
      refine J.p (PR.move rfl) rfl ?_
      refine J.p (PR.add rfl rfl (by first | exact nw _ (by omega) | rfl)) rfl ?_
      refine J.p (PR.assign rfl) rfl ?_
      refine J.nil ?_
      refine EJ.inN ?_
      refine EJ.inN ?_
      refine EJ.thenN ?_
      refine EJ.drop .z ?_
      exact hAg0 (qo97, co97, O ++ [tm f i], i + 1, j) ⟨by omega, by omega, hO.app (mrgA1 (by omega) (by omega))⟩ (by show f.length + g.length - _ < f.length + g.length - (i + j); omega) 55 rfl rfl ⟨rfl, ⟨rfl, trivial⟩⟩ rfl rfl
    ·
      try have h67p := of_decide_eq_false h67
      refine HJ.gy (fun gh => PR.move rfl) rfl (fun gh => rfl) h67 ?_
      refine HJ.gy (fun gh => PR.fldA u32 rfl sz30 rfl) rfl (fun gh => rfl) h67 ?_
      refine HJ.gy (fun gh => PR.load rfl (.s (.s (.s (.s .z)))) rfl pl30) rfl (fun gh => rfl) h67 ?_
      refine HJ.gy (fun gh => PR.lenSlice u30 rfl rfl) rfl (fun gh => rfl) h67 ?_
      refine HJ.gy (fun gh => PR.lss rfl rfl) rfl (fun gh => rfl) h67 ?_
      refine HJ.gy (fun gh => PR.move rfl) rfl (fun gh => rfl) h67 ?_
      refine HJ.splitB 11 rfl (fun h73 => ?_) (fun h73 => ?_)
      ·
        try have h73p := of_decide_eq_true h73
        refine HJ.gy (fun gh => PR.fldA u32 rfl sz30 rfl) rfl (fun gh => rfl) h73 ?_
        refine HJ.gy (fun gh => PR.load rfl (.s (.s (.s (.s .z)))) rfl pl30) rfl (fun gh => rfl) h73 ?_
        refine HJ.gy (fun gh => PR.move rfl) rfl (fun gh => rfl) h73 ?_
        refine HJ.gy (fun gh => PR.idx u30 sz66 rfl rfl rfl (by omega) hf.sm) rfl (fun gh => rfl) h73 ?_
        refine HJ.gy (fun gh => PR.fldP u66 rfl sz64 rfl (hf.sm (i := i) (by omega))) rfl (fun gh => rfl) h73 ?_
        refine HJ.gy (fun gh => PR.loadHagg rfl (hf.mono (by omega)) (hf.sm (i := i) (by omega)) (by rw [bytesC_length, (hf.wf _ (by omega)).mono.len]; exact ag64)) rfl (fun gh => rfl) h73 ?_
        refine HJ.gy (fun gh => PR.fldA u32 rfl sz30 rfl) rfl (fun gh => rfl) h73 ?_
        refine HJ.gy (fun gh => PR.load rfl (.s (.s (.s .z))) rfl pl30) rfl (fun gh => rfl) h73 ?_
        refine HJ.gy (fun gh => PR.move rfl) rfl (fun gh => rfl) h73 ?_
        refine HJ.gy (fun gh => PR.idx u30 sz66 rfl rfl rfl (by omega) hg.sm) rfl (fun gh => rfl) h73 ?_
        refine HJ.gy (fun gh => PR.fldP u66 rfl sz64 rfl (hg.sm (i := j) (by omega))) rfl (fun gh => rfl) h73 ?_
        refine HJ.gy (fun gh => PR.loadHagg rfl (hg.mono (by omega)) (hg.sm (i := j) (by omega)) (by rw [bytesC_length, (hg.wf _ (by omega)).mono.len]; exact ag64)) rfl (fun gh => rfl) h73 ?_
        refine HJ.close 24 1 foll0 (by kernel_rfl) rfl rfl fun gh => ?_
        refine J.conv (us' := (62, _) :: (63, _) :: (64, _) :: (65, _) :: (66, _) :: (67, _) :: (68, _) :: (69, _) :: (70, _) :: (71, _) :: (72, _) :: (73, _) :: (74, _) :: (75, _) :: (76, _) :: (77, _) :: (78, _) :: (79, _) :: (80, _) :: (81, _) :: (82, _) :: (83, _) :: (84, _) :: (85, _) :: _) (L' := _) rfl rfl ?_
        refine J.gcall fn51 rfl rfl h73 rfl rfl fun w hH => (l01Before_c (hf.wf i (by omega)).mono (hg.wf j (by omega)).mono hH).mono ?_
        rintro _ w ⟨rfl, hH⟩
        refine ⟨_, rfl, fun a hF => J.of hF hH ?_⟩
        refine J.nil ?_
        refine EJ.still ?_
        refine JS.gy (PR.pickT rfl h73 rfl) rfl rfl rfl h67 ?_
        refine JS.op (PR.pickF rfl h67 rfl) rfl ?_
        refine JS.op (PR.assign rfl) rfl ?_
        refine JS.nil ?_
        refine EJ.thenN (hK7 ?_)
        refine CJ.cond rfl (fun h61 => ?_) (fun h61 => ?_)
        ·
          refine CJ.seq fun _ hK9 _ => ?_
          refine CJ.head [[], [0], [], [2], [], [3, 4], [5], [6]] (by kernel_rfl) ?_
          refine HJ.op (fun gh => PR.fldA u32 rfl sz30 rfl) ?_
          refine HJ.op (fun gh => PR.load rfl At.z rfl pl30) ?_
          refine HJ.op (fun gh => PR.fldA u32 rfl sz30 rfl) ?_
          refine HJ.op (fun gh => PR.load rfl (.s (.s (.s (.s .z)))) rfl pl30) ?_
          refine HJ.op (fun gh => PR.move rfl) ?_
          refine HJ.op (fun gh => PR.idx u30 sz66 rfl rfl rfl (by omega) hf.sm) ?_
          refine HJ.op (fun gh => PR.loadHagg rfl (hf.cell _ (by omega)) (hf.sm (i := i) (by omega)) (by rw [Term.c_length (hf.wf _ (by omega))]; exact ag66)) ?_
          refine HJ.mk (fun gh => MK.lit1T u30 ze66 sz66 (hf.wf i (by omega)) rfl) ?_
          refine HJ.close 8 3 foll0 (by kernel_rfl) rfl rfl fun gh => ?_
          refine J.conv (us' := (89, _) :: (90, _) :: (91, _) :: (92, _) :: (93, _) :: (94, _) :: (95, _) :: (96, _) :: _) (L' := _ :: _) rfl rfl ?_
          refine J.appendOT u30 ze66 sz66 by66 rfl rfl (by simp only [List.length_cons, List.length_nil]; omega) .z (.s .z) (fun _ _ => (.s .z)) rfl fun qo97 co97 => ?_
          refine J.p (PR.fldA u32 rfl sz30 rfl) rfl ?_
          refine J.store rfl rfl rfl rfl sz30 (by simp [*]) (.s .z) ?_
          refine J.nil ?_
          refine EJ.still ?_
          refine JS.nil ?_
          refine EJ.thenN (hK9 ?_)
          refine CJ.region ?_
          refine J.p (PR.move rfl) rfl ?_
          refine J.p (PR.add rfl rfl (by first | exact nw _ (by omega) | rfl)) rfl ?_
          refine J.p (PR.assign rfl) rfl ?_
          refine J.nil ?_
          refine EJ.inN ?_
          refine EJ.inN ?_
          refine EJ.thenN ?_
          refine EJ.drop .z ?_
          exact hAg0 (qo97, co97, O ++ [tm f i], i + 1, j) ⟨by omega, by omega, hO.app (mrgA2 (by omega) (by omega) h61)⟩ (by show f.length + g.length - _ < f.length + g.length - (i + j); omega) 55 rfl rfl ⟨rfl, ⟨rfl, trivial⟩⟩ rfl rfl
        ·
          refine CJ.seq fun _ hK10 _ => ?_
          refine CJ.head [[], [], [1], [2], [0, 3], [4], [5], [6, 5], [5], [7, 8, 5], [9, 5], [10, 5], [5], [12, 5], [5], [13, 14, 5], [15, 5], [16, 5]] (by kernel_rfl) ?_
          refine HJ.op (fun gh => PR.move rfl) ?_
          refine HJ.op (fun gh => PR.fldA u32 rfl sz30 rfl) ?_
          refine HJ.op (fun gh => PR.load rfl (.s (.s (.s (.s .z)))) rfl pl30) ?_
          refine HJ.op (fun gh => PR.lenSlice u30 rfl rfl) ?_
          refine HJ.op (fun gh => PR.eql rfl rfl) ?_
          refine HJ.op (fun gh => PR.move rfl) ?_
          refine HJ.splitB 5 rfl (fun h107 => ?_) (fun h107 => ?_)
          ·
            try have h107p := of_decide_eq_true h107
            refine HJ.gn rfl (fun gh => rfl) h107 ?_
            refine HJ.gn rfl (fun gh => rfl) h107 ?_
            refine HJ.gn rfl (fun gh => rfl) h107 ?_
            refine HJ.gn rfl (fun gh => rfl) h107 ?_
            refine HJ.gn rfl (fun gh => rfl) h107 ?_
            refine HJ.gn rfl (fun gh => rfl) h107 ?_
            refine HJ.gn rfl (fun gh => rfl) h107 ?_
            refine HJ.gn rfl (fun gh => rfl) h107 ?_
            refine HJ.gn rfl (fun gh => rfl) h107 ?_
            refine HJ.gn rfl (fun gh => rfl) h107 ?_
            refine HJ.gn rfl (fun gh => rfl) h107 ?_
            refine HJ.gn rfl (fun gh => rfl) h107 ?_
            refine HJ.close 18 1 foll0 (by kernel_rfl) rfl rfl fun gh => ?_
            refine J.conv (us' := (102, _) :: (103, _) :: (104, _) :: (105, _) :: (106, _) :: (107, _) :: (108, _) :: (109, _) :: (110, _) :: (111, _) :: (112, _) :: (113, _) :: (114, _) :: (115, _) :: (116, _) :: (117, _) :: (118, _) :: (119, _) :: _) (L' := _) rfl rfl ?_
            refine J.gn rfl rfl rfl h107 ?_
            refine J.nil ?_
            refine EJ.still ?_
            refine JS.op (PR.pickT rfl h107 rfl) rfl ?_
            refine JS.op (PR.assign rfl) rfl ?_
            refine JS.nil ?_
            refine EJ.thenN (hK10 ?_)
            refine CJ.condT rfl ?_
            refine CJ.seq fun _ hK11 _ => ?_
            refine CJ.seq fun _ hK12 _ => ?_
            refine CJ.region ?_
            refine J.p (PR.move rfl) rfl ?_
            refine J.p (PR.fldA u32 rfl sz30 rfl) rfl ?_
            refine J.p (PR.load rfl (.s (.s (.s .z))) rfl pl30) rfl ?_
            refine J.p (PR.move rfl) rfl ?_
            refine J.p (PR.idx u30 sz66 rfl rfl rfl (by omega) hg.sm) rfl ?_
            refine J.p (PR.fldP u66 rfl sz2 rfl (hg.sm (i := j) (by omega))) rfl ?_
            refine J.p (PR.loadH rfl (hg.fac (by omega)) pl2) rfl ?_
            refine J.p (PR.mul rfl rfl (by first | exact nw _ (by omega) | rfl)) rfl ?_
            refine J.call fn69 rfl rfl fun w hH => (l01Mod_c (by omega) hH).mono ?_
            rintro _ w ⟨rfl, hH⟩
            refine ⟨_, rfl, fun a hF => J.of hF hH ?_⟩
            refine J.p (PR.assign rfl) rfl ?_
            refine J.nil ?_
            refine EJ.thenN (hK12 ?_)
            refine CJ.seq fun _ hK13 _ => ?_
            refine CJ.region ?_
            refine J.p (PR.move rfl) rfl ?_
            refine J.p (PR.neq rfl rfl) rfl ?_
            refine J.nil ?_
            refine EJ.thenN (hK13 ?_)
            refine CJ.condD rfl (fun h132 => ?_) (fun h132 => ?_)
            ·
              refine CJ.head [[], [0], [], [2], [], [3, 4], [5], [6], [], [7, 8], [9]] (by kernel_rfl) ?_
              refine HJ.op (fun gh => PR.fldA u32 rfl sz30 rfl) ?_
              refine HJ.op (fun gh => PR.load rfl At.z rfl pl30) ?_
              refine HJ.op (fun gh => PR.fldA u32 rfl sz30 rfl) ?_
              refine HJ.op (fun gh => PR.load rfl (.s (.s (.s .z))) rfl pl30) ?_
              refine HJ.op (fun gh => PR.move rfl) ?_
              refine HJ.op (fun gh => PR.idx u30 sz66 rfl rfl rfl (by omega) hg.sm) ?_
              refine HJ.op (fun gh => PR.fldP u66 rfl sz64 rfl (hg.sm (i := j) (by omega))) ?_
              refine HJ.op (fun gh => PR.loadHagg rfl (hg.mono (by omega)) (hg.sm (i := j) (by omega)) (by rw [bytesC_length, (hg.wf _ (by omega)).mono.len]; exact ag64)) ?_
              refine HJ.op (fun gh => PR.move rfl) ?_
              refine HJ.op (fun gh => PR.build2 rfl rfl (fun w => bt66 _ _ (hg.wf j (by omega)).mono.len w)) ?_
              refine HJ.mk (fun gh => MK.lit1T u30 ze66 sz66 (Term.wf.of (hg.wf j (by omega)).mono (by omega)) rfl) ?_
              refine HJ.close 11 3 foll0 (by kernel_rfl) rfl rfl fun gh => ?_
              refine J.conv (us' := (133, _) :: (134, _) :: (135, _) :: (136, _) :: (137, _) :: (138, _) :: (139, _) :: (140, _) :: (141, _) :: (142, _) :: (143, _) :: _) (L' := _ :: _) rfl rfl ?_
              refine J.appendOT u30 ze66 sz66 by66 rfl rfl (by simp only [List.length_cons, List.length_nil]; omega) .z (.s .z) (fun _ _ => (.s .z)) rfl fun qo144 co144 => ?_
              refine J.p (PR.fldA u32 rfl sz30 rfl) rfl ?_
              refine J.store rfl rfl rfl rfl sz30 (by simp [*]) (.s .z) ?_
              refine J.nil ?_
              refine EJ.still ?_
              refine JS.nil ?_
              refine EJ.thenN (hK11 ?_)
              refine CJ.region ?_
              refine J.p (PR.move rfl) rfl ?_
              refine J.p (PR.add rfl rfl (by first | exact nw _ (by omega) | rfl)) rfl ?_
              refine J.p (PR.assign rfl) rfl ?_
              refine J.nil ?_
              refine EJ.inN ?_
              refine EJ.inN ?_
              refine EJ.thenN ?_
              refine EJ.drop .z ?_
              exact hAg0 (qo144, co144, O ++ [⟨(tm g j).mono, fld (k * (tm g j).fac)⟩], i, j + 1) (by exfalso; omega) (by show f.length + g.length - _ < f.length + g.length - (i + j); omega) 91 rfl rfl ⟨rfl, ⟨rfl, trivial⟩⟩ rfl rfl
            ·
              refine CJ.skip ?_
              refine EJ.thenN (hK11 ?_)
              refine CJ.region ?_
              refine J.p (PR.move rfl) rfl ?_
              refine J.p (PR.add rfl rfl (by first | exact nw _ (by omega) | rfl)) rfl ?_
              refine J.p (PR.assign rfl) rfl ?_
              refine J.nil ?_
              refine EJ.inN ?_
              refine EJ.inN ?_
              refine EJ.thenN ?_
              exact hAg0 (q, c, O, i, j + 1) (by exfalso; omega) (by show f.length + g.length - _ < f.length + g.length - (i + j); omega) 78 rfl rfl ⟨rfl, ⟨rfl, trivial⟩⟩ rfl rfl
          ·
            try have h107p := of_decide_eq_false h107
            refine HJ.gy (fun gh => PR.fldA u32 rfl sz30 rfl) rfl (fun gh => rfl) h107 ?_
            refine HJ.gy (fun gh => PR.load rfl (.s (.s (.s .z))) rfl pl30) rfl (fun gh => rfl) h107 ?_
            refine HJ.gy (fun gh => PR.move rfl) rfl (fun gh => rfl) h107 ?_
            refine HJ.gy (fun gh => PR.idx u30 sz66 rfl rfl rfl (by omega) hg.sm) rfl (fun gh => rfl) h107 ?_
            refine HJ.gy (fun gh => PR.fldP u66 rfl sz64 rfl (hg.sm (i := j) (by omega))) rfl (fun gh => rfl) h107 ?_
            refine HJ.gy (fun gh => PR.loadHagg rfl (hg.mono (by omega)) (hg.sm (i := j) (by omega)) (by rw [bytesC_length, (hg.wf _ (by omega)).mono.len]; exact ag64)) rfl (fun gh => rfl) h107 ?_
            refine HJ.gy (fun gh => PR.fldA u32 rfl sz30 rfl) rfl (fun gh => rfl) h107 ?_
            refine HJ.gy (fun gh => PR.load rfl (.s (.s (.s (.s .z)))) rfl pl30) rfl (fun gh => rfl) h107 ?_
            refine HJ.gy (fun gh => PR.move rfl) rfl (fun gh => rfl) h107 ?_
            refine HJ.gy (fun gh => PR.idx u30 sz66 rfl rfl rfl (by omega) hf.sm) rfl (fun gh => rfl) h107 ?_
            refine HJ.gy (fun gh => PR.fldP u66 rfl sz64 rfl (hf.sm (i := i) (by omega))) rfl (fun gh => rfl) h107 ?_
            refine HJ.gy (fun gh => PR.loadHagg rfl (hf.mono (by omega)) (hf.sm (i := i) (by omega)) (by rw [bytesC_length, (hf.wf _ (by omega)).mono.len]; exact ag64)) rfl (fun gh => rfl) h107 ?_
            refine HJ.close 18 1 foll0 (by kernel_rfl) rfl rfl fun gh => ?_
            refine J.conv (us' := (102, _) :: (103, _) :: (104, _) :: (105, _) :: (106, _) :: (107, _) :: (108, _) :: (109, _) :: (110, _) :: (111, _) :: (112, _) :: (113, _) :: (114, _) :: (115, _) :: (116, _) :: (117, _) :: (118, _) :: (119, _) :: _) (L' := _) rfl rfl ?_
            refine J.gcall fn51 rfl rfl h107 rfl rfl fun w hH => (l01Before_c (hg.wf j (by omega)).mono (hf.wf i (by omega)).mono hH).mono ?_
            rintro _ w ⟨rfl, hH⟩
            refine ⟨_, rfl, fun a hF => J.of hF hH ?_⟩
            refine J.nil ?_
            refine EJ.still ?_
            refine JS.op (PR.pickF rfl h107 rfl) rfl ?_
            refine JS.op (PR.assign rfl) rfl ?_
            refine JS.nil ?_
            refine EJ.thenN (hK10 ?_)
            refine CJ.cond rfl (fun h101 => ?_) (fun h101 => ?_)
            ·
              have hjl : j < g.length := by omega
              have hyv := hsg.val _ (toS_at (ts := g) hjl)
              simp only at hyv
              have kb := mul_sb (b := (tm g j).fac) (B := 10006) (show -10006 ≤ k ∧ k ≤ 10006 by omega) hyv
              have fb := fld_bd (k * (tm g j).fac)
              refine CJ.seq fun _ hK14 _ => ?_
              refine CJ.seq fun _ hK15 _ => ?_
              refine CJ.region ?_
              refine J.p (PR.move rfl) rfl ?_
              refine J.p (PR.fldA u32 rfl sz30 rfl) rfl ?_
              refine J.p (PR.load rfl (.s (.s (.s .z))) rfl pl30) rfl ?_
              refine J.p (PR.move rfl) rfl ?_
              refine J.p (PR.idx u30 sz66 rfl rfl rfl (by omega) hg.sm) rfl ?_
              refine J.p (PR.fldP u66 rfl sz2 rfl (hg.sm (i := j) (by omega))) rfl ?_
              refine J.p (PR.loadH rfl (hg.fac (by omega)) pl2) rfl ?_
              refine J.p (PR.mul rfl rfl (by first | exact nw _ (by omega) | rfl)) rfl ?_
              refine J.call fn69 rfl rfl fun w hH => (l01Mod_c (by omega) hH).mono ?_
              rintro _ w ⟨rfl, hH⟩
              refine ⟨_, rfl, fun a hF => J.of hF hH ?_⟩
              refine J.p (PR.assign rfl) rfl ?_
              refine J.nil ?_
              refine EJ.thenN (hK15 ?_)
              refine CJ.seq fun _ hK16 _ => ?_
              refine CJ.region ?_
              refine J.p (PR.move rfl) rfl ?_
              refine J.p (PR.neq rfl rfl) rfl ?_
              refine J.nil ?_
              refine EJ.thenN (hK16 ?_)
              refine CJ.condD rfl (fun h132 => ?_) (fun h132 => ?_)
              ·
                refine CJ.head [[], [0], [], [2], [], [3, 4], [5], [6], [], [7, 8], [9]] (by kernel_rfl) ?_
                refine HJ.op (fun gh => PR.fldA u32 rfl sz30 rfl) ?_
                refine HJ.op (fun gh => PR.load rfl At.z rfl pl30) ?_
                refine HJ.op (fun gh => PR.fldA u32 rfl sz30 rfl) ?_
                refine HJ.op (fun gh => PR.load rfl (.s (.s (.s .z))) rfl pl30) ?_
                refine HJ.op (fun gh => PR.move rfl) ?_
                refine HJ.op (fun gh => PR.idx u30 sz66 rfl rfl rfl (by omega) hg.sm) ?_
                refine HJ.op (fun gh => PR.fldP u66 rfl sz64 rfl (hg.sm (i := j) (by omega))) ?_
                refine HJ.op (fun gh => PR.loadHagg rfl (hg.mono (by omega)) (hg.sm (i := j) (by omega)) (by rw [bytesC_length, (hg.wf _ (by omega)).mono.len]; exact ag64)) ?_
                refine HJ.op (fun gh => PR.move rfl) ?_
                refine HJ.op (fun gh => PR.build2 rfl rfl (fun w => bt66 _ _ (hg.wf j (by omega)).mono.len w)) ?_
                refine HJ.mk (fun gh => MK.lit1T u30 ze66 sz66 (Term.wf.of (hg.wf j (by omega)).mono (by omega)) rfl) ?_
                refine HJ.close 11 3 foll0 (by kernel_rfl) rfl rfl fun gh => ?_
                refine J.conv (us' := (133, _) :: (134, _) :: (135, _) :: (136, _) :: (137, _) :: (138, _) :: (139, _) :: (140, _) :: (141, _) :: (142, _) :: (143, _) :: _) (L' := _ :: _) rfl rfl ?_
                refine J.appendOT u30 ze66 sz66 by66 rfl rfl (by simp only [List.length_cons, List.length_nil]; omega) .z (.s .z) (fun _ _ => (.s .z)) rfl fun qo144 co144 => ?_
                refine J.p (PR.fldA u32 rfl sz30 rfl) rfl ?_
                refine J.store rfl rfl rfl rfl sz30 (by simp [*]) (.s .z) ?_
                refine J.nil ?_
                refine EJ.still ?_
                refine JS.nil ?_
                refine EJ.thenN (hK14 ?_)
                refine CJ.region ?_
                refine J.p (PR.move rfl) rfl ?_
                refine J.p (PR.add rfl rfl (by first | exact nw _ (by omega) | rfl)) rfl ?_
                refine J.p (PR.assign rfl) rfl ?_
                refine J.nil ?_
                refine EJ.inN ?_
                refine EJ.inN ?_
                refine EJ.thenN ?_
                refine EJ.drop .z ?_
                exact hAg0 (qo144, co144, O ++ [⟨(tm g j).mono, fld (k * (tm g j).fac)⟩], i, j + 1) ⟨by omega, by omega, hO.app ((mrgB2 (by omega) (by omega) (by simp [h61]) h101).trans (if_neg h132))⟩ (by show f.length + g.length - _ < f.length + g.length - (i + j); omega) 91 rfl rfl ⟨rfl, ⟨rfl, trivial⟩⟩ rfl rfl
              ·
                refine CJ.skip ?_
                refine EJ.thenN (hK14 ?_)
                refine CJ.region ?_
                refine J.p (PR.move rfl) rfl ?_
                refine J.p (PR.add rfl rfl (by first | exact nw _ (by omega) | rfl)) rfl ?_
                refine J.p (PR.assign rfl) rfl ?_
                refine J.nil ?_
                refine EJ.inN ?_
                refine EJ.inN ?_
                refine EJ.thenN ?_
                exact hAg0 (q, c, O, i, j + 1) ⟨by omega, by omega, hO.skip ((mrgB2 (by omega) (by omega) (by simp [h61]) h101).trans (if_pos (Decidable.not_not.1 h132)))⟩ (by show f.length + g.length - _ < f.length + g.length - (i + j); omega) 78 rfl rfl ⟨rfl, ⟨rfl, trivial⟩⟩ rfl rfl
            ·
              have hil : i < f.length := by omega
              have hxv := hsf.val _ (toS_at (ts := f) hil)
              simp only at hxv
              have fb2 := fld_bd ((tm f i).fac + fld (k * (tm g j).fac))
              have hjl : j < g.length := by omega
              have hyv := hsg.val _ (toS_at (ts := g) hjl)
              simp only at hyv
              have kb := mul_sb (b := (tm g j).fac) (B := 10006) (show -10006 ≤ k ∧ k ≤ 10006 by omega) hyv
              have fb := fld_bd (k * (tm g j).fac)
              refine CJ.seq fun _ hK17 _ => ?_
              refine CJ.seq fun _ hK18 _ => ?_
              refine CJ.head [[], [0], [], [1, 2], [3], [4], [], [], [7], [], [8, 9], [10], [11], [6, 12], [13]] (by kernel_rfl) ?_
              refine HJ.op (fun gh => PR.fldA u32 rfl sz30 rfl) ?_
              refine HJ.op (fun gh => PR.load rfl (.s (.s (.s (.s .z)))) rfl pl30) ?_
              refine HJ.op (fun gh => PR.move rfl) ?_
              refine HJ.op (fun gh => PR.idx u30 sz66 rfl rfl rfl (by omega) hf.sm) ?_
              refine HJ.op (fun gh => PR.fldP u66 rfl sz2 rfl (hf.sm (i := i) (by omega))) ?_
              refine HJ.op (fun gh => PR.loadH rfl (hf.fac (by omega)) pl2) ?_
              refine HJ.op (fun gh => PR.move rfl) ?_
              refine HJ.op (fun gh => PR.fldA u32 rfl sz30 rfl) ?_
              refine HJ.op (fun gh => PR.load rfl (.s (.s (.s .z))) rfl pl30) ?_
              refine HJ.op (fun gh => PR.move rfl) ?_
              refine HJ.op (fun gh => PR.idx u30 sz66 rfl rfl rfl (by omega) hg.sm) ?_
              refine HJ.op (fun gh => PR.fldP u66 rfl sz2 rfl (hg.sm (i := j) (by omega))) ?_
              refine HJ.op (fun gh => PR.loadH rfl (hg.fac (by omega)) pl2) ?_
              refine HJ.op (fun gh => PR.mul rfl rfl (by first | exact nw _ (by omega) | rfl)) ?_
              refine HJ.call fn69 (fun gh => rfl) (fun w X hH => l01Mod_c (by omega) hH) ?_
              refine HJ.close 15 2 foll0 (by kernel_rfl) rfl rfl fun gh => ?_
              refine J.conv (us' := (25, _) :: (26, _) :: (27, _) :: (28, _) :: (29, _) :: (30, _) :: (31, _) :: (32, _) :: (33, _) :: (34, _) :: (35, _) :: (36, _) :: (37, _) :: (38, _) :: (39, _) :: _) (L' := _) rfl rfl ?_
              refine J.p (PR.add rfl rfl (by first | exact nw _ (by omega) | rfl)) rfl ?_
              refine J.call fn69 rfl rfl fun w hH => (l01Mod_c (by omega) hH).mono ?_
              rintro _ w ⟨rfl, hH⟩
              refine ⟨_, rfl, fun a hF => J.of hF hH ?_⟩
              refine J.nil ?_
              refine EJ.still ?_
              refine JS.op (PR.assign rfl) rfl ?_
              refine JS.nil ?_
              refine EJ.thenN (hK18 ?_)
              refine CJ.seq fun _ hK19 _ => ?_
              refine CJ.region ?_
              refine J.p (PR.move rfl) rfl ?_
              refine J.p (PR.neq rfl rfl) rfl ?_
              refine J.nil ?_
              refine EJ.thenN (hK19 ?_)
              refine CJ.condD rfl (fun h43 => ?_) (fun h43 => ?_)
              ·
                refine CJ.head [[], [0], [], [2], [], [3, 4], [5], [6], [], [7, 8], [9]] (by kernel_rfl) ?_
                refine HJ.op (fun gh => PR.fldA u32 rfl sz30 rfl) ?_
                refine HJ.op (fun gh => PR.load rfl At.z rfl pl30) ?_
                refine HJ.op (fun gh => PR.fldA u32 rfl sz30 rfl) ?_
                refine HJ.op (fun gh => PR.load rfl (.s (.s (.s (.s .z)))) rfl pl30) ?_
                refine HJ.op (fun gh => PR.move rfl) ?_
                refine HJ.op (fun gh => PR.idx u30 sz66 rfl rfl rfl (by omega) hf.sm) ?_
                refine HJ.op (fun gh => PR.fldP u66 rfl sz64 rfl (hf.sm (i := i) (by omega))) ?_
                refine HJ.op (fun gh => PR.loadHagg rfl (hf.mono (by omega)) (hf.sm (i := i) (by omega)) (by rw [bytesC_length, (hf.wf _ (by omega)).mono.len]; exact ag64)) ?_
                refine HJ.op (fun gh => PR.move rfl) ?_
                refine HJ.op (fun gh => PR.build2 rfl rfl (fun w => bt66 _ _ (hf.wf i (by omega)).mono.len w)) ?_
                refine HJ.mk (fun gh => MK.lit1T u30 ze66 sz66 (Term.wf.of (hf.wf i (by omega)).mono (by omega)) rfl) ?_
                refine HJ.close 11 3 foll0 (by kernel_rfl) rfl rfl fun gh => ?_
                refine J.conv (us' := (44, _) :: (45, _) :: (46, _) :: (47, _) :: (48, _) :: (49, _) :: (50, _) :: (51, _) :: (52, _) :: (53, _) :: (54, _) :: _) (L' := _ :: _) rfl rfl ?_
                refine J.appendOT u30 ze66 sz66 by66 rfl rfl (by simp only [List.length_cons, List.length_nil]; omega) .z (.s .z) (fun _ _ => (.s .z)) rfl fun qo55 co55 => ?_
                refine J.p (PR.fldA u32 rfl sz30 rfl) rfl ?_
                refine J.store rfl rfl rfl rfl sz30 (by simp [*]) (.s .z) ?_
                refine J.nil ?_
                refine EJ.still ?_
                refine JS.nil ?_
                refine EJ.thenN (hK17 ?_)
                refine CJ.seq fun _ hK20 _ => ?_
                refine CJ.region ?_
                refine J.p (PR.move rfl) rfl ?_
                refine J.p (PR.add rfl rfl (by first | exact nw _ (by omega) | rfl)) rfl ?_
                refine J.p (PR.assign rfl) rfl ?_
                refine J.nil ?_
                refine EJ.thenN (hK20 ?_)
                refine CJ.region ?_
                refine J.p (PR.move rfl) rfl ?_
                refine J.p (PR.add rfl rfl (by first | exact nw _ (by omega) | rfl)) rfl ?_
                refine J.p (PR.assign rfl) rfl ?_
                refine J.nil ?_
                refine EJ.inN ?_
                refine EJ.inN ?_
                refine EJ.thenN ?_
                refine EJ.drop .z ?_
                exact hAg0 (qo55, co55, O ++ [⟨(tm f i).mono, fld ((tm f i).fac + fld (k * (tm g j).fac))⟩], i + 1, j + 1) ⟨by omega, by omega, hO.app ((mrgC (by omega) (by omega) (by simp [h61]) (by simp [h101])).trans (if_neg h43))⟩ (by show f.length + g.length - _ < f.length + g.length - (i + j); omega) 102 rfl rfl ⟨rfl, ⟨rfl, trivial⟩⟩ rfl rfl
              ·
                refine CJ.skip ?_
                refine EJ.thenN (hK17 ?_)
                refine CJ.seq fun _ hK21 _ => ?_
                refine CJ.region ?_
                refine J.p (PR.move rfl) rfl ?_
                refine J.p (PR.add rfl rfl (by first | exact nw _ (by omega) | rfl)) rfl ?_
                refine J.p (PR.assign rfl) rfl ?_
                refine J.nil ?_
                refine EJ.thenN (hK21 ?_)
                refine CJ.region ?_
                refine J.p (PR.move rfl) rfl ?_
                refine J.p (PR.add rfl rfl (by first | exact nw _ (by omega) | rfl)) rfl ?_
                refine J.p (PR.assign rfl) rfl ?_
                refine J.nil ?_
                refine EJ.inN ?_
                refine EJ.inN ?_
                refine EJ.thenN ?_
                exact hAg0 (q, c, O, i + 1, j + 1) ⟨by omega, by omega, hO.skip ((mrgC (by omega) (by omega) (by simp [h61]) (by simp [h101])).trans (if_pos (Decidable.not_not.1 h43)))⟩ (by show f.length + g.length - _ < f.length + g.length - (i + j); omega) 89 rfl rfl ⟨rfl, ⟨rfl, trivial⟩⟩ rfl rfl
      ·
        try have h73p := of_decide_eq_false h73
        refine HJ.gn rfl (fun gh => rfl) h73 ?_
        refine HJ.gn rfl (fun gh => rfl) h73 ?_
        refine HJ.gn rfl (fun gh => rfl) h73 ?_
        refine HJ.gn rfl (fun gh => rfl) h73 ?_
        refine HJ.gn rfl (fun gh => rfl) h73 ?_
        refine HJ.gn rfl (fun gh => rfl) h73 ?_
        refine HJ.gn rfl (fun gh => rfl) h73 ?_
        refine HJ.gn rfl (fun gh => rfl) h73 ?_
        refine HJ.gn rfl (fun gh => rfl) h73 ?_
        refine HJ.gn rfl (fun gh => rfl) h73 ?_
        refine HJ.gn rfl (fun gh => rfl) h73 ?_
        refine HJ.gn rfl (fun gh => rfl) h73 ?_
        refine HJ.close 24 1 foll0 (by kernel_rfl) rfl rfl fun gh => ?_
        refine J.conv (us' := (62, _) :: (63, _) :: (64, _) :: (65, _) :: (66, _) :: (67, _) :: (68, _) :: (69, _) :: (70, _) :: (71, _) :: (72, _) :: (73, _) :: (74, _) :: (75, _) :: (76, _) :: (77, _) :: (78, _) :: (79, _) :: (80, _) :: (81, _) :: (82, _) :: (83, _) :: (84, _) :: (85, _) :: _) (L' := _) rfl rfl ?_
        refine J.gn rfl rfl rfl h73 ?_
        refine J.nil ?_
        refine EJ.still ?_
        refine JS.gy (PR.pickF rfl h73 rfl) rfl rfl rfl h67 ?_
        refine JS.op (PR.pickF rfl h67 rfl) rfl ?_
        refine JS.op (PR.assign rfl) rfl ?_
        refine JS.nil ?_
        refine EJ.thenN (hK7 ?_)
        refine CJ.condF rfl ?_
        refine CJ.seq fun _ hK22 _ => ?_
        refine CJ.head [[], [], [1], [2], [0, 3], [4], [5], [6, 5], [5], [7, 8, 5], [9, 5], [10, 5], [5], [12, 5], [5], [13, 14, 5], [15, 5], [16, 5]] (by kernel_rfl) ?_
        refine HJ.op (fun gh => PR.move rfl) ?_
        refine HJ.op (fun gh => PR.fldA u32 rfl sz30 rfl) ?_
        refine HJ.op (fun gh => PR.load rfl (.s (.s (.s (.s .z)))) rfl pl30) ?_
        refine HJ.op (fun gh => PR.lenSlice u30 rfl rfl) ?_
        refine HJ.op (fun gh => PR.eql rfl rfl) ?_
        refine HJ.op (fun gh => PR.move rfl) ?_
        refine HJ.splitB 5 rfl (fun h107 => ?_) (fun h107 => ?_)
        ·
          try have h107p := of_decide_eq_true h107
          refine HJ.gn rfl (fun gh => rfl) h107 ?_
          refine HJ.gn rfl (fun gh => rfl) h107 ?_
          refine HJ.gn rfl (fun gh => rfl) h107 ?_
          refine HJ.gn rfl (fun gh => rfl) h107 ?_
          refine HJ.gn rfl (fun gh => rfl) h107 ?_
          refine HJ.gn rfl (fun gh => rfl) h107 ?_
          refine HJ.gn rfl (fun gh => rfl) h107 ?_
          refine HJ.gn rfl (fun gh => rfl) h107 ?_
          refine HJ.gn rfl (fun gh => rfl) h107 ?_
          refine HJ.gn rfl (fun gh => rfl) h107 ?_
          refine HJ.gn rfl (fun gh => rfl) h107 ?_
          refine HJ.gn rfl (fun gh => rfl) h107 ?_
          refine HJ.close 18 1 foll0 (by kernel_rfl) rfl rfl fun gh => ?_
          refine J.conv (us' := (102, _) :: (103, _) :: (104, _) :: (105, _) :: (106, _) :: (107, _) :: (108, _) :: (109, _) :: (110, _) :: (111, _) :: (112, _) :: (113, _) :: (114, _) :: (115, _) :: (116, _) :: (117, _) :: (118, _) :: (119, _) :: _) (L' := _) rfl rfl ?_
          refine J.gn rfl rfl rfl h107 ?_
          refine J.nil ?_
          refine EJ.still ?_
          refine JS.op (PR.pickT rfl h107 rfl) rfl ?_
          refine JS.op (PR.assign rfl) rfl ?_
          refine JS.nil ?_
          refine EJ.thenN (hK22 ?_)
          refine CJ.condT rfl ?_
          refine CJ.seq fun _ hK23 _ => ?_
          refine CJ.seq fun _ hK24 _ => ?_
          refine CJ.region ?_
          refine J.p (PR.move rfl) rfl ?_
          refine J.p (PR.fldA u32 rfl sz30 rfl) rfl ?_
          refine J.p (PR.load rfl (.s (.s (.s .z))) rfl pl30) rfl ?_
          refine J.p (PR.move rfl) rfl ?_
          refine J.p (PR.idx u30 sz66 rfl rfl rfl (by omega) hg.sm) rfl ?_
          refine J.p (PR.fldP u66 rfl sz2 rfl (hg.sm (i := j) (by omega))) rfl ?_
          refine J.p (PR.loadH rfl (hg.fac (by omega)) pl2) rfl ?_
          refine J.p (PR.mul rfl rfl (by first | exact nw _ (by omega) | rfl)) rfl ?_
          refine J.call fn69 rfl rfl fun w hH => (l01Mod_c (by omega) hH).mono ?_
          rintro _ w ⟨rfl, hH⟩
          refine ⟨_, rfl, fun a hF => J.of hF hH ?_⟩
          refine J.p (PR.assign rfl) rfl ?_
          refine J.nil ?_
          refine EJ.thenN (hK24 ?_)
          refine CJ.seq fun _ hK25 _ => ?_
          refine CJ.region ?_
          refine J.p (PR.move rfl) rfl ?_
          refine J.p (PR.neq rfl rfl) rfl ?_
          refine J.nil ?_
          refine EJ.thenN (hK25 ?_)
          refine CJ.condD rfl (fun h132 => ?_) (fun h132 => ?_)
          ·
            refine CJ.head [[], [0], [], [2], [], [3, 4], [5], [6], [], [7, 8], [9]] (by kernel_rfl) ?_
            refine HJ.op (fun gh => PR.fldA u32 rfl sz30 rfl) ?_
            refine HJ.op (fun gh => PR.load rfl At.z rfl pl30) ?_
            refine HJ.op (fun gh => PR.fldA u32 rfl sz30 rfl) ?_
            refine HJ.op (fun gh => PR.load rfl (.s (.s (.s .z))) rfl pl30) ?_
            refine HJ.op (fun gh => PR.move rfl) ?_
            refine HJ.op (fun gh => PR.idx u30 sz66 rfl rfl rfl (by omega) hg.sm) ?_
            refine HJ.op (fun gh => PR.fldP u66 rfl sz64 rfl (hg.sm (i := j) (by omega))) ?_
            refine HJ.op (fun gh => PR.loadHagg rfl (hg.mono (by omega)) (hg.sm (i := j) (by omega)) (by rw [bytesC_length, (hg.wf _ (by omega)).mono.len]; exact ag64)) ?_
            refine HJ.op (fun gh => PR.move rfl) ?_
            refine HJ.op (fun gh => PR.build2 rfl rfl (fun w => bt66 _ _ (hg.wf j (by omega)).mono.len w)) ?_
            refine HJ.mk (fun gh => MK.lit1T u30 ze66 sz66 (Term.wf.of (hg.wf j (by omega)).mono (by omega)) rfl) ?_
            refine HJ.close 11 3 foll0 (by kernel_rfl) rfl rfl fun gh => ?_
            refine J.conv (us' := (133, _) :: (134, _) :: (135, _) :: (136, _) :: (137, _) :: (138, _) :: (139, _) :: (140, _) :: (141, _) :: (142, _) :: (143, _) :: _) (L' := _ :: _) rfl rfl ?_
            refine J.appendOT u30 ze66 sz66 by66 rfl rfl (by simp only [List.length_cons, List.length_nil]; omega) .z (.s .z) (fun _ _ => (.s .z)) rfl fun qo144 co144 => ?_
            refine J.p (PR.fldA u32 rfl sz30 rfl) rfl ?_
            refine J.store rfl rfl rfl rfl sz30 (by simp [*]) (.s .z) ?_
            refine J.nil ?_
            refine EJ.still ?_
            refine JS.nil ?_
            refine EJ.thenN (hK23 ?_)
            refine CJ.region ?_
            refine J.p (PR.move rfl) rfl ?_
            refine J.p (PR.add rfl rfl (by first | exact nw _ (by omega) | rfl)) rfl ?_
            refine J.p (PR.assign rfl) rfl ?_
            refine J.nil ?_
            refine EJ.inN ?_
            refine EJ.inN ?_
            refine EJ.thenN ?_
            refine EJ.drop .z ?_
            exact hAg0 (qo144, co144, O ++ [⟨(tm g j).mono, fld (k * (tm g j).fac)⟩], i, j + 1) ⟨by omega, by omega, hO.app ((mrgB1 (by omega) (by omega)).trans (if_neg h132))⟩ (by show f.length + g.length - _ < f.length + g.length - (i + j); omega) 91 rfl rfl ⟨rfl, ⟨rfl, trivial⟩⟩ rfl rfl
          ·
            refine CJ.skip ?_
            refine EJ.thenN (hK23 ?_)
            refine CJ.region ?_
            refine J.p (PR.move rfl) rfl ?_
            refine J.p (PR.add rfl rfl (by first | exact nw _ (by omega) | rfl)) rfl ?_
            refine J.p (PR.assign rfl) rfl ?_
            refine J.nil ?_
            refine EJ.inN ?_
            refine EJ.inN ?_
            refine EJ.thenN ?_
            exact hAg0 (q, c, O, i, j + 1) ⟨by omega, by omega, hO.skip ((mrgB1 (by omega) (by omega)).trans (if_pos (Decidable.not_not.1 h132)))⟩ (by show f.length + g.length - _ < f.length + g.length - (i + j); omega) 78 rfl rfl ⟨rfl, ⟨rfl, trivial⟩⟩ rfl rfl
        ·
          try have h107p := of_decide_eq_false h107
          refine HJ.gy (fun gh => PR.fldA u32 rfl sz30 rfl) rfl (fun gh => rfl) h107 ?_
          refine HJ.gy (fun gh => PR.load rfl (.s (.s (.s .z))) rfl pl30) rfl (fun gh => rfl) h107 ?_
          refine HJ.gy (fun gh => PR.move rfl) rfl (fun gh => rfl) h107 ?_
          refine HJ.gy (fun gh => PR.idx u30 sz66 rfl rfl rfl (by omega) hg.sm) rfl (fun gh => rfl) h107 ?_
          refine HJ.gy (fun gh => PR.fldP u66 rfl sz64 rfl (hg.sm (i := j) (by omega))) rfl (fun gh => rfl) h107 ?_
          refine HJ.gy (fun gh => PR.loadHagg rfl (hg.mono (by omega)) (hg.sm (i := j) (by omega)) (by rw [bytesC_length, (hg.wf _ (by omega)).mono.len]; exact ag64)) rfl (fun gh => rfl) h107 ?_
          refine HJ.gy (fun gh => PR.fldA u32 rfl sz30 rfl) rfl (fun gh => rfl) h107 ?_
          refine HJ.gy (fun gh => PR.load rfl (.s (.s (.s (.s .z)))) rfl pl30) rfl (fun gh => rfl) h107 ?_
          refine HJ.gy (fun gh => PR.move rfl) rfl (fun gh => rfl) h107 ?_
          refine HJ.gy (fun gh => PR.idx u30 sz66 rfl rfl rfl (by omega) hf.sm) rfl (fun gh => rfl) h107 ?_
          refine HJ.gy (fun gh => PR.fldP u66 rfl sz64 rfl (hf.sm (i := i) (by omega))) rfl (fun gh => rfl) h107 ?_
          refine HJ.gy (fun gh => PR.loadHagg rfl (hf.mono (by omega)) (hf.sm (i := i) (by omega)) (by rw [bytesC_length, (hf.wf _ (by omega)).mono.len]; exact ag64)) rfl (fun gh => rfl) h107 ?_
          refine HJ.close 18 1 foll0 (by kernel_rfl) rfl rfl fun gh => ?_
          refine J.conv (us' := (102, _) :: (103, _) :: (104, _) :: (105, _) :: (106, _) :: (107, _) :: (108, _) :: (109, _) :: (110, _) :: (111, _) :: (112, _) :: (113, _) :: (114, _) :: (115, _) :: (116, _) :: (117, _) :: (118, _) :: (119, _) :: _) (L' := _) rfl rfl ?_
          refine J.gcall fn51 rfl rfl h107 rfl rfl fun w hH => (l01Before_c (hg.wf j (by omega)).mono (hf.wf i (by omega)).mono hH).mono ?_
          rintro _ w ⟨rfl, hH⟩
          refine ⟨_, rfl, fun a hF => J.of hF hH ?_⟩
          refine J.nil ?_
          refine EJ.still ?_
          refine JS.op (PR.pickF rfl h107 rfl) rfl ?_
          refine JS.op (PR.assign rfl) rfl ?_
          refine JS.nil ?_
          refine EJ.thenN (hK22 ?_)
          refine CJ.cond rfl (fun h101 => ?_) (fun h101 => ?_)
          ·
            have hjl : j < g.length := by omega
            have hyv := hsg.val _ (toS_at (ts := g) hjl)
            simp only at hyv
            have kb := mul_sb (b := (tm g j).fac) (B := 10006) (show -10006 ≤ k ∧ k ≤ 10006 by omega) hyv
            have fb := fld_bd (k * (tm g j).fac)
            refine CJ.seq fun _ hK26 _ => ?_
            refine CJ.seq fun _ hK27 _ => ?_
            refine CJ.region ?_
            refine J.p (PR.move rfl) rfl ?_
            refine J.p (PR.fldA u32 rfl sz30 rfl) rfl ?_
            refine J.p (PR.load rfl (.s (.s (.s .z))) rfl pl30) rfl ?_
            refine J.p (PR.move rfl) rfl ?_
            refine J.p (PR.idx u30 sz66 rfl rfl rfl (by omega) hg.sm) rfl ?_
            refine J.p (PR.fldP u66 rfl sz2 rfl (hg.sm (i := j) (by omega))) rfl ?_
            refine J.p (PR.loadH rfl (hg.fac (by omega)) pl2) rfl ?_
            refine J.p (PR.mul rfl rfl (by first | exact nw _ (by omega) | rfl)) rfl ?_
            refine J.call fn69 rfl rfl fun w hH => (l01Mod_c (by omega) hH).mono ?_
            rintro _ w ⟨rfl, hH⟩
            refine ⟨_, rfl, fun a hF => J.of hF hH ?_⟩
            refine J.p (PR.assign rfl) rfl ?_
            refine J.nil ?_
            refine EJ.thenN (hK27 ?_)
            refine CJ.seq fun _ hK28 _ => ?_
            refine CJ.region ?_
            refine J.p (PR.move rfl) rfl ?_
            refine J.p (PR.neq rfl rfl) rfl ?_
            refine J.nil ?_
            refine EJ.thenN (hK28 ?_)
            refine CJ.condD rfl (fun h132 => ?_) (fun h132 => ?_)
            ·
              refine CJ.head [[], [0], [], [2], [], [3, 4], [5], [6], [], [7, 8], [9]] (by kernel_rfl) ?_
              refine HJ.op (fun gh => PR.fldA u32 rfl sz30 rfl) ?_
              refine HJ.op (fun gh => PR.load rfl At.z rfl pl30) ?_
              refine HJ.op (fun gh => PR.fldA u32 rfl sz30 rfl) ?_
              refine HJ.op (fun gh => PR.load rfl (.s (.s (.s .z))) rfl pl30) ?_
              refine HJ.op (fun gh => PR.move rfl) ?_
              refine HJ.op (fun gh => PR.idx u30 sz66 rfl rfl rfl (by omega) hg.sm) ?_
              refine HJ.op (fun gh => PR.fldP u66 rfl sz64 rfl (hg.sm (i := j) (by omega))) ?_
              refine HJ.op (fun gh => PR.loadHagg rfl (hg.mono (by omega)) (hg.sm (i := j) (by omega)) (by rw [bytesC_length, (hg.wf _ (by omega)).mono.len]; exact ag64)) ?_
              refine HJ.op (fun gh => PR.move rfl) ?_
              refine HJ.op (fun gh => PR.build2 rfl rfl (fun w => bt66 _ _ (hg.wf j (by omega)).mono.len w)) ?_
              refine HJ.mk (fun gh => MK.lit1T u30 ze66 sz66 (Term.wf.of (hg.wf j (by omega)).mono (by omega)) rfl) ?_
              refine HJ.close 11 3 foll0 (by kernel_rfl) rfl rfl fun gh => ?_
              refine J.conv (us' := (133, _) :: (134, _) :: (135, _) :: (136, _) :: (137, _) :: (138, _) :: (139, _) :: (140, _) :: (141, _) :: (142, _) :: (143, _) :: _) (L' := _ :: _) rfl rfl ?_
              refine J.appendOT u30 ze66 sz66 by66 rfl rfl (by simp only [List.length_cons, List.length_nil]; omega) .z (.s .z) (fun _ _ => (.s .z)) rfl fun qo144 co144 => ?_
              refine J.p (PR.fldA u32 rfl sz30 rfl) rfl ?_
              refine J.store rfl rfl rfl rfl sz30 (by simp [*]) (.s .z) ?_
              refine J.nil ?_
              refine EJ.still ?_
              refine JS.nil ?_
              refine EJ.thenN (hK26 ?_)
              refine CJ.region ?_
              refine J.p (PR.move rfl) rfl ?_
              refine J.p (PR.add rfl rfl (by first | exact nw _ (by omega) | rfl)) rfl ?_
              refine J.p (PR.assign rfl) rfl ?_
              refine J.nil ?_
              refine EJ.inN ?_
              refine EJ.inN ?_
              refine EJ.thenN ?_
              refine EJ.drop .z ?_
              exact hAg0 (qo144, co144, O ++ [⟨(tm g j).mono, fld (k * (tm g j).fac)⟩], i, j + 1) (by exfalso; omega) (by show f.length + g.length - _ < f.length + g.length - (i + j); omega) 91 rfl rfl ⟨rfl, ⟨rfl, trivial⟩⟩ rfl rfl
            ·
              refine CJ.skip ?_
              refine EJ.thenN (hK26 ?_)
              refine CJ.region ?_
              refine J.p (PR.move rfl) rfl ?_
              refine J.p (PR.add rfl rfl (by first | exact nw _ (by omega) | rfl)) rfl ?_
              refine J.p (PR.assign rfl) rfl ?_
              refine J.nil ?_
              refine EJ.inN ?_
              refine EJ.inN ?_
              refine EJ.thenN ?_
              exact hAg0 (q, c, O, i, j + 1) (by exfalso; omega) (by show f.length + g.length - _ < f.length + g.length - (i + j); omega) 78 rfl rfl ⟨rfl, ⟨rfl, trivial⟩⟩ rfl rfl
          ·
            have hil : i < f.length := by omega
            have hxv := hsf.val _ (toS_at (ts := f) hil)
            simp only at hxv
            have fb2 := fld_bd ((tm f i).fac + fld (k * (tm g j).fac))
            have hjl : j < g.length := by omega
            have hyv := hsg.val _ (toS_at (ts := g) hjl)
            simp only at hyv
            have kb := mul_sb (b := (tm g j).fac) (B := 10006) (show -10006 ≤ k ∧ k ≤ 10006 by omega) hyv
            have fb := fld_bd (k * (tm g j).fac)
            refine CJ.seq fun _ hK29 _ => ?_
            refine CJ.seq fun _ hK30 _ => ?_
            refine CJ.head [[], [0], [], [1, 2], [3], [4], [], [], [7], [], [8, 9], [10], [11], [6, 12], [13]] (by kernel_rfl) ?_
            refine HJ.op (fun gh => PR.fldA u32 rfl sz30 rfl) ?_
            refine HJ.op (fun gh => PR.load rfl (.s (.s (.s (.s .z)))) rfl pl30) ?_
            refine HJ.op (fun gh => PR.move rfl) ?_
            refine HJ.op (fun gh => PR.idx u30 sz66 rfl rfl rfl (by omega) hf.sm) ?_
            refine HJ.op (fun gh => PR.fldP u66 rfl sz2 rfl (hf.sm (i := i) (by omega))) ?_
            refine HJ.op (fun gh => PR.loadH rfl (hf.fac (by omega)) pl2) ?_
            refine HJ.op (fun gh => PR.move rfl) ?_
            refine HJ.op (fun gh => PR.fldA u32 rfl sz30 rfl) ?_
            refine HJ.op (fun gh => PR.load rfl (.s (.s (.s .z))) rfl pl30) ?_
            refine HJ.op (fun gh => PR.move rfl) ?_
            refine HJ.op (fun gh => PR.idx u30 sz66 rfl rfl rfl (by omega) hg.sm) ?_
            refine HJ.op (fun gh => PR.fldP u66 rfl sz2 rfl (hg.sm (i := j) (by omega))) ?_
            refine HJ.op (fun gh => PR.loadH rfl (hg.fac (by omega)) pl2) ?_
            refine HJ.op (fun gh => PR.mul rfl rfl (by first | exact nw _ (by omega) | rfl)) ?_
            refine HJ.call fn69 (fun gh => rfl) (fun w X hH => l01Mod_c (by omega) hH) ?_
            refine HJ.close 15 2 foll0 (by kernel_rfl) rfl rfl fun gh => ?_
            refine J.conv (us' := (25, _) :: (26, _) :: (27, _) :: (28, _) :: (29, _) :: (30, _) :: (31, _) :: (32, _) :: (33, _) :: (34, _) :: (35, _) :: (36, _) :: (37, _) :: (38, _) :: (39, _) :: _) (L' := _) rfl rfl ?_
            refine J.p (PR.add rfl rfl (by first | exact nw _ (by omega) | rfl)) rfl ?_
            refine J.call fn69 rfl rfl fun w hH => (l01Mod_c (by omega) hH).mono ?_
            rintro _ w ⟨rfl, hH⟩
            refine ⟨_, rfl, fun a hF => J.of hF hH ?_⟩
            refine J.nil ?_
            refine EJ.still ?_
            refine JS.op (PR.assign rfl) rfl ?_
            refine JS.nil ?_
            refine EJ.thenN (hK30 ?_)
            refine CJ.seq fun _ hK31 _ => ?_
            refine CJ.region ?_
            refine J.p (PR.move rfl) rfl ?_
            refine J.p (PR.neq rfl rfl) rfl ?_
            refine J.nil ?_
            refine EJ.thenN (hK31 ?_)
            refine CJ.condD rfl (fun h43 => ?_) (fun h43 => ?_)
            ·
              refine CJ.head [[], [0], [], [2], [], [3, 4], [5], [6], [], [7, 8], [9]] (by kernel_rfl) ?_
              refine HJ.op (fun gh => PR.fldA u32 rfl sz30 rfl) ?_
              refine HJ.op (fun gh => PR.load rfl At.z rfl pl30) ?_
              refine HJ.op (fun gh => PR.fldA u32 rfl sz30 rfl) ?_
              refine HJ.op (fun gh => PR.load rfl (.s (.s (.s (.s .z)))) rfl pl30) ?_
              refine HJ.op (fun gh => PR.move rfl) ?_
              refine HJ.op (fun gh => PR.idx u30 sz66 rfl rfl rfl (by omega) hf.sm) ?_
              refine HJ.op (fun gh => PR.fldP u66 rfl sz64 rfl (hf.sm (i := i) (by omega))) ?_
              refine HJ.op (fun gh => PR.loadHagg rfl (hf.mono (by omega)) (hf.sm (i := i) (by omega)) (by rw [bytesC_length, (hf.wf _ (by omega)).mono.len]; exact ag64)) ?_
              refine HJ.op (fun gh => PR.move rfl) ?_
              refine HJ.op (fun gh => PR.build2 rfl rfl (fun w => bt66 _ _ (hf.wf i (by omega)).mono.len w)) ?_
              refine HJ.mk (fun gh => MK.lit1T u30 ze66 sz66 (Term.wf.of (hf.wf i (by omega)).mono (by omega)) rfl) ?_
              refine HJ.close 11 3 foll0 (by kernel_rfl) rfl rfl fun gh => ?_
              refine J.conv (us' := (44, _) :: (45, _) :: (46, _) :: (47, _) :: (48, _) :: (49, _) :: (50, _) :: (51, _) :: (52, _) :: (53, _) :: (54, _) :: _) (L' := _ :: _) rfl rfl ?_
              refine J.appendOT u30 ze66 sz66 by66 rfl rfl (by simp only [List.length_cons, List.length_nil]; omega) .z (.s .z) (fun _ _ => (.s .z)) rfl fun qo55 co55 => ?_
              refine J.p (PR.fldA u32 rfl sz30 rfl) rfl ?_
              refine J.store rfl rfl rfl rfl sz30 (by simp [*]) (.s .z) ?_
              refine J.nil ?_
              refine EJ.still ?_
              refine JS.nil ?_
              refine EJ.thenN (hK29 ?_)
              refine CJ.seq fun _ hK32 _ => ?_
              refine CJ.region ?_
              refine J.p (PR.move rfl) rfl ?_
              refine J.p (PR.add rfl rfl (by first | exact nw _ (by omega) | rfl)) rfl ?_
              refine J.p (PR.assign rfl) rfl ?_
              refine J.nil ?_
              refine EJ.thenN (hK32 ?_)
              refine CJ.region ?_
              refine J.p (PR.move rfl) rfl ?_
              refine J.p (PR.add rfl rfl (by first | exact nw _ (by omega) | rfl)) rfl ?_
              refine J.p (PR.assign rfl) rfl ?_
              refine J.nil ?_
              refine EJ.inN ?_
              refine EJ.inN ?_
              refine EJ.thenN ?_
              refine EJ.drop .z ?_
              exact hAg0 (qo55, co55, O ++ [⟨(tm f i).mono, fld ((tm f i).fac + fld (k * (tm g j).fac))⟩], i + 1, j + 1) (by exfalso; omega) (by show f.length + g.length - _ < f.length + g.length - (i + j); omega) 102 rfl rfl ⟨rfl, ⟨rfl, trivial⟩⟩ rfl rfl
            ·
              refine CJ.skip ?_
              refine EJ.thenN (hK29 ?_)
              refine CJ.seq fun _ hK33 _ => ?_
              refine CJ.region ?_
              refine J.p (PR.move rfl) rfl ?_
              refine J.p (PR.add rfl rfl (by first | exact nw _ (by omega) | rfl)) rfl ?_
              refine J.p (PR.assign rfl) rfl ?_
              refine J.nil ?_
              refine EJ.thenN (hK33 ?_)
              refine CJ.region ?_
              refine J.p (PR.move rfl) rfl ?_
              refine J.p (PR.add rfl rfl (by first | exact nw _ (by omega) | rfl)) rfl ?_
              refine J.p (PR.assign rfl) rfl ?_
              refine J.nil ?_
              refine EJ.inN ?_
              refine EJ.inN ?_
              refine EJ.thenN ?_
              exact hAg0 (q, c, O, i + 1, j + 1) (by exfalso; omega) (by show f.length + g.length - _ < f.length + g.length - (i + j); omega) 89 rfl rfl ⟨rfl, ⟨rfl, trivial⟩⟩ rfl rfl
  ·
    try have hg18p := of_decide_eq_false hg18
    refine J.gy (PR.move rfl) rfl rfl rfl hg18 ?_
    refine J.gy (PR.fldA u32 rfl sz30 rfl) rfl rfl rfl hg18 ?_
    refine J.gy (PR.load rfl (.s (.s (.s .z))) rfl pl30) rfl rfl rfl hg18 ?_
    refine J.gy (PR.lenSlice u30 rfl rfl) rfl rfl rfl hg18 ?_
    refine J.gy (PR.lss rfl rfl) rfl rfl rfl hg18 ?_
    refine J.p (PR.pickF rfl hg18 rfl) rfl ?_
    refine J.nil ?_
    refine EJ.thenN (hK6 ?_)
    refine CJ.condD rfl (fun hc24 => ?_) (fun hc24 => ?_)
    ·
      refine CJ.skip ?_
      refine EJ.thenN (hK5 ?_)
      refine CJ.block ?_
      refine CJ.block ?_
      refine CJ.seq fun _ hK34 _ => ?_
      refine CJ.head [[], [], [1], [2], [0, 3], [4], [5], [5], [7, 5], [8, 5], [6, 9, 5], [10, 5], [11], [12, 11], [11], [13, 14, 11], [15, 11], [16, 11], [11], [18, 11], [11], [19, 20, 11], [21, 11], [22, 11]] (by kernel_rfl) ?_
      refine HJ.op (fun gh => PR.move rfl) ?_
      refine HJ.op (fun gh => PR.fldA u32 rfl sz30 rfl) ?_
      refine HJ.op (fun gh => PR.load rfl (.s (.s (.s .z))) rfl pl30) ?_
      refine HJ.op (fun gh => PR.lenSlice u30 rfl rfl) ?_
      refine HJ.op (fun gh => PR.eql rfl rfl) ?_
      refine HJ.op (fun gh => PR.move rfl) ?_
      refine HJ.splitB 5 rfl (fun h67 => ?_) (fun h67 => ?_)
      ·
        try have h67p := of_decide_eq_true h67
        refine HJ.gn rfl (fun gh => rfl) h67 ?_
        refine HJ.gn rfl (fun gh => rfl) h67 ?_
        refine HJ.gn rfl (fun gh => rfl) h67 ?_
        refine HJ.gn rfl (fun gh => rfl) h67 ?_
        refine HJ.gn rfl (fun gh => rfl) h67 ?_
        refine HJ.gn rfl (fun gh => rfl) h67 ?_
        refine HJ.gu rfl (fun gh => rfl) ?_
        refine HJ.gu rfl (fun gh => rfl) ?_
        refine HJ.gu rfl (fun gh => rfl) ?_
        refine HJ.gu rfl (fun gh => rfl) ?_
        refine HJ.gu rfl (fun gh => rfl) ?_
        refine HJ.gu rfl (fun gh => rfl) ?_
        refine HJ.gu rfl (fun gh => rfl) ?_
        refine HJ.gu rfl (fun gh => rfl) ?_
        refine HJ.gu rfl (fun gh => rfl) ?_
        refine HJ.gu rfl (fun gh => rfl) ?_
        refine HJ.gu rfl (fun gh => rfl) ?_
        refine HJ.gu rfl (fun gh => rfl) ?_
        refine HJ.close 24 1 foll0 (by kernel_rfl) rfl rfl fun gh => ?_
        refine J.conv (us' := (62, _) :: (63, _) :: (64, _) :: (65, _) :: (66, _) :: (67, _) :: (68, _) :: (69, _) :: (70, _) :: (71, _) :: (72, _) :: (73, _) :: (74, _) :: (75, _) :: (76, _) :: (77, _) :: (78, _) :: (79, _) :: (80, _) :: (81, _) :: (82, _) :: (83, _) :: (84, _) :: (85, _) :: _) (L' := _) rfl rfl ?_
        refine J.gu rfl rfl rfl ?_
        refine J.nil ?_
        refine EJ.still ?_
        refine JS.gn rfl rfl rfl h67 ?_
        refine JS.op (PR.pickT rfl h67 rfl) rfl ?_
        refine JS.op (PR.assign rfl) rfl ?_
        refine JS.nil ?_
        refine EJ.thenN (hK34 ?_)
        refine CJ.condT rfl ?_
        refine CJ.seq fun _ hK35 _ => ?_
        refine CJ.head [[], [0], [], [2], [], [3, 4], [5], [6]] (by kernel_rfl) ?_
        refine HJ.op (fun gh => PR.fldA u32 rfl sz30 rfl) ?_
        refine HJ.op (fun gh => PR.load rfl At.z rfl pl30) ?_
        refine HJ.op (fun gh => PR.fldA u32 rfl sz30 rfl) ?_
        refine HJ.op (fun gh => PR.load rfl (.s (.s (.s (.s .z)))) rfl pl30) ?_
        refine HJ.op (fun gh => PR.move rfl) ?_
        refine HJ.op (fun gh => PR.idx u30 sz66 rfl rfl rfl (by omega) hf.sm) ?_
        refine HJ.op (fun gh => PR.loadHagg rfl (hf.cell _ (by omega)) (hf.sm (i := i) (by omega)) (by rw [Term.c_length (hf.wf _ (by omega))]; exact ag66)) ?_
        refine HJ.mk (fun gh => MK.lit1T u30 ze66 sz66 (hf.wf i (by omega)) rfl) ?_
        refine HJ.close 8 3 foll0 (by kernel_rfl) rfl rfl fun gh => ?_
        refine J.conv (us' := (89, _) :: (90, _) :: (91, _) :: (92, _) :: (93, _) :: (94, _) :: (95, _) :: (96, _) :: _) (L' := _ :: _) rfl rfl ?_
        refine J.appendOT u30 ze66 sz66 by66 rfl rfl (by simp only [List.length_cons, List.length_nil]; omega) .z (.s .z) (fun _ _ => (.s .z)) rfl fun qo97 co97 => ?_
        refine J.p (PR.fldA u32 rfl sz30 rfl) rfl ?_
        refine J.store rfl rfl rfl rfl sz30 (by simp [*]) (.s .z) ?_
        refine J.nil ?_
        refine EJ.still ?_
        refine JS.nil ?_
        refine EJ.thenN (hK35 ?_)
        refine CJ.region ?_
        refine J.p (PR.move rfl) rfl ?_
        refine J.p (PR.add rfl rfl (by first | exact nw _ (by omega) | rfl)) rfl ?_
        refine J.p (PR.assign rfl) rfl ?_
        refine J.nil ?_
        refine EJ.inN ?_
        refine EJ.inN ?_
        refine EJ.thenN ?_
        refine EJ.drop .z ?_
        exact hAg0 (qo97, co97, O ++ [tm f i], i + 1, j) (by exfalso; omega) (by show f.length + g.length - _ < f.length + g.length - (i + j); omega) 55 rfl rfl ⟨rfl, ⟨rfl, trivial⟩⟩ rfl rfl
      ·
        try have h67p := of_decide_eq_false h67
        refine HJ.gy (fun gh => PR.move rfl) rfl (fun gh => rfl) h67 ?_
        refine HJ.gy (fun gh => PR.fldA u32 rfl sz30 rfl) rfl (fun gh => rfl) h67 ?_
        refine HJ.gy (fun gh => PR.load rfl (.s (.s (.s (.s .z)))) rfl pl30) rfl (fun gh => rfl) h67 ?_
        refine HJ.gy (fun gh => PR.lenSlice u30 rfl rfl) rfl (fun gh => rfl) h67 ?_
        refine HJ.gy (fun gh => PR.lss rfl rfl) rfl (fun gh => rfl) h67 ?_
        refine HJ.gy (fun gh => PR.move rfl) rfl (fun gh => rfl) h67 ?_
        refine HJ.splitB 11 rfl (fun h73 => ?_) (fun h73 => ?_)
        ·
          try have h73p := of_decide_eq_true h73
          refine HJ.gy (fun gh => PR.fldA u32 rfl sz30 rfl) rfl (fun gh => rfl) h73 ?_
          refine HJ.gy (fun gh => PR.load rfl (.s (.s (.s (.s .z)))) rfl pl30) rfl (fun gh => rfl) h73 ?_
          refine HJ.gy (fun gh => PR.move rfl) rfl (fun gh => rfl) h73 ?_
          refine HJ.gy (fun gh => PR.idx u30 sz66 rfl rfl rfl (by omega) hf.sm) rfl (fun gh => rfl) h73 ?_
          refine HJ.gy (fun gh => PR.fldP u66 rfl sz64 rfl (hf.sm (i := i) (by omega))) rfl (fun gh => rfl) h73 ?_
          refine HJ.gy (fun gh => PR.loadHagg rfl (hf.mono (by omega)) (hf.sm (i := i) (by omega)) (by rw [bytesC_length, (hf.wf _ (by omega)).mono.len]; exact ag64)) rfl (fun gh => rfl) h73 ?_
          refine HJ.gy (fun gh => PR.fldA u32 rfl sz30 rfl) rfl (fun gh => rfl) h73 ?_
          refine HJ.gy (fun gh => PR.load rfl (.s (.s (.s .z))) rfl pl30) rfl (fun gh => rfl) h73 ?_
          refine HJ.gy (fun gh => PR.move rfl) rfl (fun gh => rfl) h73 ?_
          refine HJ.gy (fun gh => PR.idx u30 sz66 rfl rfl rfl (by omega) hg.sm) rfl (fun gh => rfl) h73 ?_
          refine HJ.gy (fun gh => PR.fldP u66 rfl sz64 rfl (hg.sm (i := j) (by omega))) rfl (fun gh => rfl) h73 ?_
          refine HJ.gy (fun gh => PR.loadHagg rfl (hg.mono (by omega)) (hg.sm (i := j) (by omega)) (by rw [bytesC_length, (hg.wf _ (by omega)).mono.len]; exact ag64)) rfl (fun gh => rfl) h73 ?_
          refine HJ.close 24 1 foll0 (by kernel_rfl) rfl rfl fun gh => ?_
          refine J.conv (us' := (62, _) :: (63, _) :: (64, _) :: (65, _) :: (66, _) :: (67, _) :: (68, _) :: (69, _) :: (70, _) :: (71, _) :: (72, _) :: (73, _) :: (74, _) :: (75, _) :: (76, _) :: (77, _) :: (78, _) :: (79, _) :: (80, _) :: (81, _) :: (82, _) :: (83, _) :: (84, _) :: (85, _) :: _) (L' := _) rfl rfl ?_
          refine J.gcall fn51 rfl rfl h73 rfl rfl fun w hH => (l01Before_c (hf.wf i (by omega)).mono (hg.wf j (by omega)).mono hH).mono ?_
          rintro _ w ⟨rfl, hH⟩
          refine ⟨_, rfl, fun a hF => J.of hF hH ?_⟩
          refine J.nil ?_
          refine EJ.still ?_
          refine JS.gy (PR.pickT rfl h73 rfl) rfl rfl rfl h67 ?_
          refine JS.op (PR.pickF rfl h67 rfl) rfl ?_
          refine JS.op (PR.assign rfl) rfl ?_
          refine JS.nil ?_
          refine EJ.thenN (hK34 ?_)
          refine CJ.cond rfl (fun h61 => ?_) (fun h61 => ?_)
          ·
            refine CJ.seq fun _ hK36 _ => ?_
            refine CJ.head [[], [0], [], [2], [], [3, 4], [5], [6]] (by kernel_rfl) ?_
            refine HJ.op (fun gh => PR.fldA u32 rfl sz30 rfl) ?_
            refine HJ.op (fun gh => PR.load rfl At.z rfl pl30) ?_
            refine HJ.op (fun gh => PR.fldA u32 rfl sz30 rfl) ?_
            refine HJ.op (fun gh => PR.load rfl (.s (.s (.s (.s .z)))) rfl pl30) ?_
            refine HJ.op (fun gh => PR.move rfl) ?_
            refine HJ.op (fun gh => PR.idx u30 sz66 rfl rfl rfl (by omega) hf.sm) ?_
            refine HJ.op (fun gh => PR.loadHagg rfl (hf.cell _ (by omega)) (hf.sm (i := i) (by omega)) (by rw [Term.c_length (hf.wf _ (by omega))]; exact ag66)) ?_
            refine HJ.mk (fun gh => MK.lit1T u30 ze66 sz66 (hf.wf i (by omega)) rfl) ?_
            refine HJ.close 8 3 foll0 (by kernel_rfl) rfl rfl fun gh => ?_
            refine J.conv (us' := (89, _) :: (90, _) :: (91, _) :: (92, _) :: (93, _) :: (94, _) :: (95, _) :: (96, _) :: _) (L' := _ :: _) rfl rfl ?_
            refine J.appendOT u30 ze66 sz66 by66 rfl rfl (by simp only [List.length_cons, List.length_nil]; omega) .z (.s .z) (fun _ _ => (.s .z)) rfl fun qo97 co97 => ?_
            refine J.p (PR.fldA u32 rfl sz30 rfl) rfl ?_
            refine J.store rfl rfl rfl rfl sz30 (by simp [*]) (.s .z) ?_
            refine J.nil ?_
            refine EJ.still ?_
            refine JS.nil ?_
            refine EJ.thenN (hK36 ?_)
            refine CJ.region ?_
            refine J.p (PR.move rfl) rfl ?_
            refine J.p (PR.add rfl rfl (by first | exact nw _ (by omega) | rfl)) rfl ?_
            refine J.p (PR.assign rfl) rfl ?_
            refine J.nil ?_
            refine EJ.inN ?_
            refine EJ.inN ?_
            refine EJ.thenN ?_
            refine EJ.drop .z ?_
            exact hAg0 (qo97, co97, O ++ [tm f i], i + 1, j) (by exfalso; omega) (by show f.length + g.length - _ < f.length + g.length - (i + j); omega) 55 rfl rfl ⟨rfl, ⟨rfl, trivial⟩⟩ rfl rfl
          ·
            refine CJ.seq fun _ hK37 _ => ?_
            refine CJ.head [[], [], [1], [2], [0, 3], [4], [5], [6, 5], [5], [7, 8, 5], [9, 5], [10, 5], [5], [12, 5], [5], [13, 14, 5], [15, 5], [16, 5]] (by kernel_rfl) ?_
            refine HJ.op (fun gh => PR.move rfl) ?_
            refine HJ.op (fun gh => PR.fldA u32 rfl sz30 rfl) ?_
            refine HJ.op (fun gh => PR.load rfl (.s (.s (.s (.s .z)))) rfl pl30) ?_
            refine HJ.op (fun gh => PR.lenSlice u30 rfl rfl) ?_
            refine HJ.op (fun gh => PR.eql rfl rfl) ?_
            refine HJ.op (fun gh => PR.move rfl) ?_
            refine HJ.splitB 5 rfl (fun h107 => ?_) (fun h107 => ?_)
            ·
              try have h107p := of_decide_eq_true h107
              refine HJ.gn rfl (fun gh => rfl) h107 ?_
              refine HJ.gn rfl (fun gh => rfl) h107 ?_
              refine HJ.gn rfl (fun gh => rfl) h107 ?_
              refine HJ.gn rfl (fun gh => rfl) h107 ?_
              refine HJ.gn rfl (fun gh => rfl) h107 ?_
              refine HJ.gn rfl (fun gh => rfl) h107 ?_
              refine HJ.gn rfl (fun gh => rfl) h107 ?_
              refine HJ.gn rfl (fun gh => rfl) h107 ?_
              refine HJ.gn rfl (fun gh => rfl) h107 ?_
              refine HJ.gn rfl (fun gh => rfl) h107 ?_
              refine HJ.gn rfl (fun gh => rfl) h107 ?_
              refine HJ.gn rfl (fun gh => rfl) h107 ?_
              refine HJ.close 18 1 foll0 (by kernel_rfl) rfl rfl fun gh => ?_
              refine J.conv (us' := (102, _) :: (103, _) :: (104, _) :: (105, _) :: (106, _) :: (107, _) :: (108, _) :: (109, _) :: (110, _) :: (111, _) :: (112, _) :: (113, _) :: (114, _) :: (115, _) :: (116, _) :: (117, _) :: (118, _) :: (119, _) :: _) (L' := _) rfl rfl ?_
              refine J.gn rfl rfl rfl h107 ?_
              refine J.nil ?_
              refine EJ.still ?_
              refine JS.op (PR.pickT rfl h107 rfl) rfl ?_
              refine JS.op (PR.assign rfl) rfl ?_
              refine JS.nil ?_
              refine EJ.thenN (hK37 ?_)
              refine CJ.condT rfl ?_
              refine CJ.seq fun _ hK38 _ => ?_
              refine CJ.seq fun _ hK39 _ => ?_
              refine CJ.region ?_
              refine J.p (PR.move rfl) rfl ?_
              refine J.p (PR.fldA u32 rfl sz30 rfl) rfl ?_
              refine J.p (PR.load rfl (.s (.s (.s .z))) rfl pl30) rfl ?_
              refine J.p (PR.move rfl) rfl ?_
              refine J.p (PR.idx u30 sz66 rfl rfl rfl (by omega) hg.sm) rfl ?_
              refine J.p (PR.fldP u66 rfl sz2 rfl (hg.sm (i := j) (by omega))) rfl ?_
              refine J.p (PR.loadH rfl (hg.fac (by omega)) pl2) rfl ?_
              refine J.p (PR.mul rfl rfl (by first | exact nw _ (by omega) | rfl)) rfl ?_
              refine J.call fn69 rfl rfl fun w hH => (l01Mod_c (by omega) hH).mono ?_
              rintro _ w ⟨rfl, hH⟩
              refine ⟨_, rfl, fun a hF => J.of hF hH ?_⟩
              refine J.p (PR.assign rfl) rfl ?_
              refine J.nil ?_
              refine EJ.thenN (hK39 ?_)
              refine CJ.seq fun _ hK40 _ => ?_
              refine CJ.region ?_
              refine J.p (PR.move rfl) rfl ?_
              refine J.p (PR.neq rfl rfl) rfl ?_
              refine J.nil ?_
              refine EJ.thenN (hK40 ?_)
              refine CJ.condD rfl (fun h132 => ?_) (fun h132 => ?_)
              ·
                refine CJ.head [[], [0], [], [2], [], [3, 4], [5], [6], [], [7, 8], [9]] (by kernel_rfl) ?_
                refine HJ.op (fun gh => PR.fldA u32 rfl sz30 rfl) ?_
                refine HJ.op (fun gh => PR.load rfl At.z rfl pl30) ?_
                refine HJ.op (fun gh => PR.fldA u32 rfl sz30 rfl) ?_
                refine HJ.op (fun gh => PR.load rfl (.s (.s (.s .z))) rfl pl30) ?_
                refine HJ.op (fun gh => PR.move rfl) ?_
                refine HJ.op (fun gh => PR.idx u30 sz66 rfl rfl rfl (by omega) hg.sm) ?_
                refine HJ.op (fun gh => PR.fldP u66 rfl sz64 rfl (hg.sm (i := j) (by omega))) ?_
                refine HJ.op (fun gh => PR.loadHagg rfl (hg.mono (by omega)) (hg.sm (i := j) (by omega)) (by rw [bytesC_length, (hg.wf _ (by omega)).mono.len]; exact ag64)) ?_
                refine HJ.op (fun gh => PR.move rfl) ?_
                refine HJ.op (fun gh => PR.build2 rfl rfl (fun w => bt66 _ _ (hg.wf j (by omega)).mono.len w)) ?_
                refine HJ.mk (fun gh => MK.lit1T u30 ze66 sz66 (Term.wf.of (hg.wf j (by omega)).mono (by omega)) rfl) ?_
                refine HJ.close 11 3 foll0 (by kernel_rfl) rfl rfl fun gh => ?_
                refine J.conv (us' := (133, _) :: (134, _) :: (135, _) :: (136, _) :: (137, _) :: (138, _) :: (139, _) :: (140, _) :: (141, _) :: (142, _) :: (143, _) :: _) (L' := _ :: _) rfl rfl ?_
                refine J.appendOT u30 ze66 sz66 by66 rfl rfl (by simp only [List.length_cons, List.length_nil]; omega) .z (.s .z) (fun _ _ => (.s .z)) rfl fun qo144 co144 => ?_
                refine J.p (PR.fldA u32 rfl sz30 rfl) rfl ?_
                refine J.store rfl rfl rfl rfl sz30 (by simp [*]) (.s .z) ?_
                refine J.nil ?_
                refine EJ.still ?_
                refine JS.nil ?_
                refine EJ.thenN (hK38 ?_)
                refine CJ.region ?_
                refine J.p (PR.move rfl) rfl ?_
                refine J.p (PR.add rfl rfl (by first | exact nw _ (by omega) | rfl)) rfl ?_
                refine J.p (PR.assign rfl) rfl ?_
                refine J.nil ?_
                refine EJ.inN ?_
                refine EJ.inN ?_
                refine EJ.thenN ?_
                refine EJ.drop .z ?_
                exact hAg0 (qo144, co144, O ++ [⟨(tm g j).mono, fld (k * (tm g j).fac)⟩], i, j + 1) (by exfalso; omega) (by show f.length + g.length - _ < f.length + g.length - (i + j); omega) 91 rfl rfl ⟨rfl, ⟨rfl, trivial⟩⟩ rfl rfl
              ·
                refine CJ.skip ?_
                refine EJ.thenN (hK38 ?_)
                refine CJ.region ?_
                refine J.p (PR.move rfl) rfl ?_
                refine J.p (PR.add rfl rfl (by first | exact nw _ (by omega) | rfl)) rfl ?_
                refine J.p (PR.assign rfl) rfl ?_
                refine J.nil ?_
                refine EJ.inN ?_
                refine EJ.inN ?_
                refine EJ.thenN ?_
                exact hAg0 (q, c, O, i, j + 1) (by exfalso; omega) (by show f.length + g.length - _ < f.length + g.length - (i + j); omega) 78 rfl rfl ⟨rfl, ⟨rfl, trivial⟩⟩ rfl rfl
            ·
              try have h107p := of_decide_eq_false h107
              refine HJ.gy (fun gh => PR.fldA u32 rfl sz30 rfl) rfl (fun gh => rfl) h107 ?_
              refine HJ.gy (fun gh => PR.load rfl (.s (.s (.s .z))) rfl pl30) rfl (fun gh => rfl) h107 ?_
              refine HJ.gy (fun gh => PR.move rfl) rfl (fun gh => rfl) h107 ?_
              refine HJ.gy (fun gh => PR.idx u30 sz66 rfl rfl rfl (by omega) hg.sm) rfl (fun gh => rfl) h107 ?_
              refine HJ.gy (fun gh => PR.fldP u66 rfl sz64 rfl (hg.sm (i := j) (by omega))) rfl (fun gh => rfl) h107 ?_
              refine HJ.gy (fun gh => PR.loadHagg rfl (hg.mono (by omega)) (hg.sm (i := j) (by omega)) (by rw [bytesC_length, (hg.wf _ (by omega)).mono.len]; exact ag64)) rfl (fun gh => rfl) h107 ?_
              refine HJ.gy (fun gh => PR.fldA u32 rfl sz30 rfl) rfl (fun gh => rfl) h107 ?_
              refine HJ.gy (fun gh => PR.load rfl (.s (.s (.s (.s .z)))) rfl pl30) rfl (fun gh => rfl) h107 ?_
              refine HJ.gy (fun gh => PR.move rfl) rfl (fun gh => rfl) h107 ?_
              refine HJ.gy (fun gh => PR.idx u30 sz66 rfl rfl rfl (by omega) hf.sm) rfl (fun gh => rfl) h107 ?_
              refine HJ.gy (fun gh => PR.fldP u66 rfl sz64 rfl (hf.sm (i := i) (by omega))) rfl (fun gh => rfl) h107 ?_
              refine HJ.gy (fun gh => PR.loadHagg rfl (hf.mono (by omega)) (hf.sm (i := i) (by omega)) (by rw [bytesC_length, (hf.wf _ (by omega)).mono.len]; exact ag64)) rfl (fun gh => rfl) h107 ?_
              refine HJ.close 18 1 foll0 (by kernel_rfl) rfl rfl fun gh => ?_
              refine J.conv (us' := (102, _) :: (103, _) :: (104, _) :: (105, _) :: (106, _) :: (107, _) :: (108, _) :: (109, _) :: (110, _) :: (111, _) :: (112, _) :: (113, _) :: (114, _) :: (115, _) :: (116, _) :: (117, _) :: (118, _) :: (119, _) :: _) (L' := _) rfl rfl ?_
              refine J.gcall fn51 rfl rfl h107 rfl rfl fun w hH => (l01Before_c (hg.wf j (by omega)).mono (hf.wf i (by omega)).mono hH).mono ?_
              rintro _ w ⟨rfl, hH⟩
              refine ⟨_, rfl, fun a hF => J.of hF hH ?_⟩
              refine J.nil ?_
              refine EJ.still ?_
              refine JS.op (PR.pickF rfl h107 rfl) rfl ?_
              refine JS.op (PR.assign rfl) rfl ?_
              refine JS.nil ?_
              refine EJ.thenN (hK37 ?_)
              refine CJ.cond rfl (fun h101 => ?_) (fun h101 => ?_)
              ·
                have hjl : j < g.length := by omega
                have hyv := hsg.val _ (toS_at (ts := g) hjl)
                simp only at hyv
                have kb := mul_sb (b := (tm g j).fac) (B := 10006) (show -10006 ≤ k ∧ k ≤ 10006 by omega) hyv
                have fb := fld_bd (k * (tm g j).fac)
                refine CJ.seq fun _ hK41 _ => ?_
                refine CJ.seq fun _ hK42 _ => ?_
                refine CJ.region ?_
                refine J.p (PR.move rfl) rfl ?_
                refine J.p (PR.fldA u32 rfl sz30 rfl) rfl ?_
                refine J.p (PR.load rfl (.s (.s (.s .z))) rfl pl30) rfl ?_
                refine J.p (PR.move rfl) rfl ?_
                refine J.p (PR.idx u30 sz66 rfl rfl rfl (by omega) hg.sm) rfl ?_
                refine J.p (PR.fldP u66 rfl sz2 rfl (hg.sm (i := j) (by omega))) rfl ?_
                refine J.p (PR.loadH rfl (hg.fac (by omega)) pl2) rfl ?_
                refine J.p (PR.mul rfl rfl (by first | exact nw _ (by omega) | rfl)) rfl ?_
                refine J.call fn69 rfl rfl fun w hH => (l01Mod_c (by omega) hH).mono ?_
                rintro _ w ⟨rfl, hH⟩
                refine ⟨_, rfl, fun a hF => J.of hF hH ?_⟩
                refine J.p (PR.assign rfl) rfl ?_
                refine J.nil ?_
                refine EJ.thenN (hK42 ?_)
                refine CJ.seq fun _ hK43 _ => ?_
                refine CJ.region ?_
                refine J.p (PR.move rfl) rfl ?_
                refine J.p (PR.neq rfl rfl) rfl ?_
                refine J.nil ?_
                refine EJ.thenN (hK43 ?_)
                refine CJ.condD rfl (fun h132 => ?_) (fun h132 => ?_)
                ·
                  refine CJ.head [[], [0], [], [2], [], [3, 4], [5], [6], [], [7, 8], [9]] (by kernel_rfl) ?_
                  refine HJ.op (fun gh => PR.fldA u32 rfl sz30 rfl) ?_
                  refine HJ.op (fun gh => PR.load rfl At.z rfl pl30) ?_
                  refine HJ.op (fun gh => PR.fldA u32 rfl sz30 rfl) ?_
                  refine HJ.op (fun gh => PR.load rfl (.s (.s (.s .z))) rfl pl30) ?_
                  refine HJ.op (fun gh => PR.move rfl) ?_
                  refine HJ.op (fun gh => PR.idx u30 sz66 rfl rfl rfl (by omega) hg.sm) ?_
                  refine HJ.op (fun gh => PR.fldP u66 rfl sz64 rfl (hg.sm (i := j) (by omega))) ?_
                  refine HJ.op (fun gh => PR.loadHagg rfl (hg.mono (by omega)) (hg.sm (i := j) (by omega)) (by rw [bytesC_length, (hg.wf _ (by omega)).mono.len]; exact ag64)) ?_
                  refine HJ.op (fun gh => PR.move rfl) ?_
                  refine HJ.op (fun gh => PR.build2 rfl rfl (fun w => bt66 _ _ (hg.wf j (by omega)).mono.len w)) ?_
                  refine HJ.mk (fun gh => MK.lit1T u30 ze66 sz66 (Term.wf.of (hg.wf j (by omega)).mono (by omega)) rfl) ?_
                  refine HJ.close 11 3 foll0 (by kernel_rfl) rfl rfl fun gh => ?_
                  refine J.conv (us' := (133, _) :: (134, _) :: (135, _) :: (136, _) :: (137, _) :: (138, _) :: (139, _) :: (140, _) :: (141, _) :: (142, _) :: (143, _) :: _) (L' := _ :: _) rfl rfl ?_
                  refine J.appendOT u30 ze66 sz66 by66 rfl rfl (by simp only [List.length_cons, List.length_nil]; omega) .z (.s .z) (fun _ _ => (.s .z)) rfl fun qo144 co144 => ?_
                  refine J.p (PR.fldA u32 rfl sz30 rfl) rfl ?_
                  refine J.store rfl rfl rfl rfl sz30 (by simp [*]) (.s .z) ?_
                  refine J.nil ?_
                  refine EJ.still ?_
                  refine JS.nil ?_
                  refine EJ.thenN (hK41 ?_)
                  refine CJ.region ?_
                  refine J.p (PR.move rfl) rfl ?_
                  refine J.p (PR.add rfl rfl (by first | exact nw _ (by omega) | rfl)) rfl ?_
                  refine J.p (PR.assign rfl) rfl ?_
                  refine J.nil ?_
                  refine EJ.inN ?_
                  refine EJ.inN ?_
                  refine EJ.thenN ?_
                  refine EJ.drop .z ?_
                  exact hAg0 (qo144, co144, O ++ [⟨(tm g j).mono, fld (k * (tm g j).fac)⟩], i, j + 1) (by exfalso; omega) (by show f.length + g.length - _ < f.length + g.length - (i + j); omega) 91 rfl rfl ⟨rfl, ⟨rfl, trivial⟩⟩ rfl rfl
                ·
                  refine CJ.skip ?_
                  refine EJ.thenN (hK41 ?_)
                  refine CJ.region ?_
                  refine J.p (PR.move rfl) rfl ?_
                  refine J.p (PR.add rfl rfl (by first | exact nw _ (by omega) | rfl)) rfl ?_
                  refine J.p (PR.assign rfl) rfl ?_
                  refine J.nil ?_
                  refine EJ.inN ?_
                  refine EJ.inN ?_
                  refine EJ.thenN ?_
                  exact hAg0 (q, c, O, i, j + 1) (by exfalso; omega) (by show f.length + g.length - _ < f.length + g.length - (i + j); omega) 78 rfl rfl ⟨rfl, ⟨rfl, trivial⟩⟩ rfl rfl
              ·
                have hil : i < f.length := by omega
                have hxv := hsf.val _ (toS_at (ts := f) hil)
                simp only at hxv
                have fb2 := fld_bd ((tm f i).fac + fld (k * (tm g j).fac))
                have hjl : j < g.length := by omega
                have hyv := hsg.val _ (toS_at (ts := g) hjl)
                simp only at hyv
                have kb := mul_sb (b := (tm g j).fac) (B := 10006) (show -10006 ≤ k ∧ k ≤ 10006 by omega) hyv
                have fb := fld_bd (k * (tm g j).fac)
                refine CJ.seq fun _ hK44 _ => ?_
                refine CJ.seq fun _ hK45 _ => ?_
                refine CJ.head [[], [0], [], [1, 2], [3], [4], [], [], [7], [], [8, 9], [10], [11], [6, 12], [13]] (by kernel_rfl) ?_
                refine HJ.op (fun gh => PR.fldA u32 rfl sz30 rfl) ?_
                refine HJ.op (fun gh => PR.load rfl (.s (.s (.s (.s .z)))) rfl pl30) ?_
                refine HJ.op (fun gh => PR.move rfl) ?_
                refine HJ.op (fun gh => PR.idx u30 sz66 rfl rfl rfl (by omega) hf.sm) ?_
                refine HJ.op (fun gh => PR.fldP u66 rfl sz2 rfl (hf.sm (i := i) (by omega))) ?_
                refine HJ.op (fun gh => PR.loadH rfl (hf.fac (by omega)) pl2) ?_
                refine HJ.op (fun gh => PR.move rfl) ?_
                refine HJ.op (fun gh => PR.fldA u32 rfl sz30 rfl) ?_
                refine HJ.op (fun gh => PR.load rfl (.s (.s (.s .z))) rfl pl30) ?_
                refine HJ.op (fun gh => PR.move rfl) ?_
                refine HJ.op (fun gh => PR.idx u30 sz66 rfl rfl rfl (by omega) hg.sm) ?_
                refine HJ.op (fun gh => PR.fldP u66 rfl sz2 rfl (hg.sm (i := j) (by omega))) ?_
                refine HJ.op (fun gh => PR.loadH rfl (hg.fac (by omega)) pl2) ?_
                refine HJ.op (fun gh => PR.mul rfl rfl (by first | exact nw _ (by omega) | rfl)) ?_
                refine HJ.call fn69 (fun gh => rfl) (fun w X hH => l01Mod_c (by omega) hH) ?_
                refine HJ.close 15 2 foll0 (by kernel_rfl) rfl rfl fun gh => ?_
                refine J.conv (us' := (25, _) :: (26, _) :: (27, _) :: (28, _) :: (29, _) :: (30, _) :: (31, _) :: (32, _) :: (33, _) :: (34, _) :: (35, _) :: (36, _) :: (37, _) :: (38, _) :: (39, _) :: _) (L' := _) rfl rfl ?_
                refine J.p (PR.add rfl rfl (by first | exact nw _ (by omega) | rfl)) rfl ?_
                refine J.call fn69 rfl rfl fun w hH => (l01Mod_c (by omega) hH).mono ?_
                rintro _ w ⟨rfl, hH⟩
                refine ⟨_, rfl, fun a hF => J.of hF hH ?_⟩
                refine J.nil ?_
                refine EJ.still ?_
                refine JS.op (PR.assign rfl) rfl ?_
                refine JS.nil ?_
                refine EJ.thenN (hK45 ?_)
                refine CJ.seq fun _ hK46 _ => ?_
                refine CJ.region ?_
                refine J.p (PR.move rfl) rfl ?_
                refine J.p (PR.neq rfl rfl) rfl ?_
                refine J.nil ?_
                refine EJ.thenN (hK46 ?_)
                refine CJ.condD rfl (fun h43 => ?_) (fun h43 => ?_)
                ·
                  refine CJ.head [[], [0], [], [2], [], [3, 4], [5], [6], [], [7, 8], [9]] (by kernel_rfl) ?_
                  refine HJ.op (fun gh => PR.fldA u32 rfl sz30 rfl) ?_
                  refine HJ.op (fun gh => PR.load rfl At.z rfl pl30) ?_
                  refine HJ.op (fun gh => PR.fldA u32 rfl sz30 rfl) ?_
                  refine HJ.op (fun gh => PR.load rfl (.s (.s (.s (.s .z)))) rfl pl30) ?_
                  refine HJ.op (fun gh => PR.move rfl) ?_
                  refine HJ.op (fun gh => PR.idx u30 sz66 rfl rfl rfl (by omega) hf.sm) ?_
                  refine HJ.op (fun gh => PR.fldP u66 rfl sz64 rfl (hf.sm (i := i) (by omega))) ?_
                  refine HJ.op (fun gh => PR.loadHagg rfl (hf.mono (by omega)) (hf.sm (i := i) (by omega)) (by rw [bytesC_length, (hf.wf _ (by omega)).mono.len]; exact ag64)) ?_
                  refine HJ.op (fun gh => PR.move rfl) ?_
                  refine HJ.op (fun gh => PR.build2 rfl rfl (fun w => bt66 _ _ (hf.wf i (by omega)).mono.len w)) ?_
                  refine HJ.mk (fun gh => MK.lit1T u30 ze66 sz66 (Term.wf.of (hf.wf i (by omega)).mono (by omega)) rfl) ?_
                  refine HJ.close 11 3 foll0 (by kernel_rfl) rfl rfl fun gh => ?_
                  refine J.conv (us' := (44, _) :: (45, _) :: (46, _) :: (47, _) :: (48, _) :: (49, _) :: (50, _) :: (51, _) :: (52, _) :: (53, _) :: (54, _) :: _) (L' := _ :: _) rfl rfl ?_
                  refine J.appendOT u30 ze66 sz66 by66 rfl rfl (by simp only [List.length_cons, List.length_nil]; omega) .z (.s .z) (fun _ _ => (.s .z)) rfl fun qo55 co55 => ?_
                  refine J.p (PR.fldA u32 rfl sz30 rfl) rfl ?_
                  refine J.store rfl rfl rfl rfl sz30 (by simp [*]) (.s .z) ?_
                  refine J.nil ?_
                  refine EJ.still ?_
                  refine JS.nil ?_
                  refine EJ.thenN (hK44 ?_)
                  refine CJ.seq fun _ hK47 _ => ?_
                  refine CJ.region ?_
                  refine J.p (PR.move rfl) rfl ?_
                  refine J.p (PR.add rfl rfl (by first | exact nw _ (by omega) | rfl)) rfl ?_
                  refine J.p (PR.assign rfl) rfl ?_
                  refine J.nil ?_
                  refine EJ.thenN (hK47 ?_)
                  refine CJ.region ?_
                  refine J.p (PR.move rfl) rfl ?_
                  refine J.p (PR.add rfl rfl (by first | exact nw _ (by omega) | rfl)) rfl ?_
                  refine J.p (PR.assign rfl) rfl ?_
                  refine J.nil ?_
                  refine EJ.inN ?_
                  refine EJ.inN ?_
                  refine EJ.thenN ?_
                  refine EJ.drop .z ?_
                  exact hAg0 (qo55, co55, O ++ [⟨(tm f i).mono, fld ((tm f i).fac + fld (k * (tm g j).fac))⟩], i + 1, j + 1) (by exfalso; omega) (by show f.length + g.length - _ < f.length + g.length - (i + j); omega) 102 rfl rfl ⟨rfl, ⟨rfl, trivial⟩⟩ rfl rfl
                ·
                  refine CJ.skip ?_
                  refine EJ.thenN (hK44 ?_)
                  refine CJ.seq fun _ hK48 _ => ?_
                  refine CJ.region ?_
                  refine J.p (PR.move rfl) rfl ?_
                  refine J.p (PR.add rfl rfl (by first | exact nw _ (by omega) | rfl)) rfl ?_
                  refine J.p (PR.assign rfl) rfl ?_
                  refine J.nil ?_
                  refine EJ.thenN (hK48 ?_)
                  refine CJ.region ?_
                  refine J.p (PR.move rfl) rfl ?_
                  refine J.p (PR.add rfl rfl (by first | exact nw _ (by omega) | rfl)) rfl ?_
                  refine J.p (PR.assign rfl) rfl ?_
                  refine J.nil ?_
                  refine EJ.inN ?_
                  refine EJ.inN ?_
                  refine EJ.thenN ?_
                  exact hAg0 (q, c, O, i + 1, j + 1) (by exfalso; omega) (by show f.length + g.length - _ < f.length + g.length - (i + j); omega) 89 rfl rfl ⟨rfl, ⟨rfl, trivial⟩⟩ rfl rfl
        ·
          try have h73p := of_decide_eq_false h73
          refine HJ.gn rfl (fun gh => rfl) h73 ?_
          refine HJ.gn rfl (fun gh => rfl) h73 ?_
          refine HJ.gn rfl (fun gh => rfl) h73 ?_
          refine HJ.gn rfl (fun gh => rfl) h73 ?_
          refine HJ.gn rfl (fun gh => rfl) h73 ?_
          refine HJ.gn rfl (fun gh => rfl) h73 ?_
          refine HJ.gn rfl (fun gh => rfl) h73 ?_
          refine HJ.gn rfl (fun gh => rfl) h73 ?_
          refine HJ.gn rfl (fun gh => rfl) h73 ?_
          refine HJ.gn rfl (fun gh => rfl) h73 ?_
          refine HJ.gn rfl (fun gh => rfl) h73 ?_
          refine HJ.gn rfl (fun gh => rfl) h73 ?_
          refine HJ.close 24 1 foll0 (by kernel_rfl) rfl rfl fun gh => ?_
          refine J.conv (us' := (62, _) :: (63, _) :: (64, _) :: (65, _) :: (66, _) :: (67, _) :: (68, _) :: (69, _) :: (70, _) :: (71, _) :: (72, _) :: (73, _) :: (74, _) :: (75, _) :: (76, _) :: (77, _) :: (78, _) :: (79, _) :: (80, _) :: (81, _) :: (82, _) :: (83, _) :: (84, _) :: (85, _) :: _) (L' := _) rfl rfl ?_
          refine J.gn rfl rfl rfl h73 ?_
          refine J.nil ?_
          refine EJ.still ?_
          refine JS.gy (PR.pickF rfl h73 rfl) rfl rfl rfl h67 ?_
          refine JS.op (PR.pickF rfl h67 rfl) rfl ?_
          refine JS.op (PR.assign rfl) rfl ?_
          refine JS.nil ?_
          refine EJ.thenN (hK34 ?_)
          refine CJ.condF rfl ?_
          refine CJ.seq fun _ hK49 _ => ?_
          refine CJ.head [[], [], [1], [2], [0, 3], [4], [5], [6, 5], [5], [7, 8, 5], [9, 5], [10, 5], [5], [12, 5], [5], [13, 14, 5], [15, 5], [16, 5]] (by kernel_rfl) ?_
          refine HJ.op (fun gh => PR.move rfl) ?_
          refine HJ.op (fun gh => PR.fldA u32 rfl sz30 rfl) ?_
          refine HJ.op (fun gh => PR.load rfl (.s (.s (.s (.s .z)))) rfl pl30) ?_
          refine HJ.op (fun gh => PR.lenSlice u30 rfl rfl) ?_
          refine HJ.op (fun gh => PR.eql rfl rfl) ?_
          refine HJ.op (fun gh => PR.move rfl) ?_
          refine HJ.splitB 5 rfl (fun h107 => ?_) (fun h107 => ?_)
          ·
            try have h107p := of_decide_eq_true h107
            refine HJ.gn rfl (fun gh => rfl) h107 ?_
            refine HJ.gn rfl (fun gh => rfl) h107 ?_
            refine HJ.gn rfl (fun gh => rfl) h107 ?_
            refine HJ.gn rfl (fun gh => rfl) h107 ?_
            refine HJ.gn rfl (fun gh => rfl) h107 ?_
            refine HJ.gn rfl (fun gh => rfl) h107 ?_
            refine HJ.gn rfl (fun gh => rfl) h107 ?_
            refine HJ.gn rfl (fun gh => rfl) h107 ?_
            refine HJ.gn rfl (fun gh => rfl) h107 ?_
            refine HJ.gn rfl (fun gh => rfl) h107 ?_
            refine HJ.gn rfl (fun gh => rfl) h107 ?_
            refine HJ.gn rfl (fun gh => rfl) h107 ?_
            refine HJ.close 18 1 foll0 (by kernel_rfl) rfl rfl fun gh => ?_
            refine J.conv (us' := (102, _) :: (103, _) :: (104, _) :: (105, _) :: (106, _) :: (107, _) :: (108, _) :: (109, _) :: (110, _) :: (111, _) :: (112, _) :: (113, _) :: (114, _) :: (115, _) :: (116, _) :: (117, _) :: (118, _) :: (119, _) :: _) (L' := _) rfl rfl ?_
            refine J.gn rfl rfl rfl h107 ?_
            refine J.nil ?_
            refine EJ.still ?_
            refine JS.op (PR.pickT rfl h107 rfl) rfl ?_
            refine JS.op (PR.assign rfl) rfl ?_
            refine JS.nil ?_
            refine EJ.thenN (hK49 ?_)
            refine CJ.condT rfl ?_
            refine CJ.seq fun _ hK50 _ => ?_
            refine CJ.seq fun _ hK51 _ => ?_
            refine CJ.region ?_
            refine J.p (PR.move rfl) rfl ?_
            refine J.p (PR.fldA u32 rfl sz30 rfl) rfl ?_
            refine J.p (PR.load rfl (.s (.s (.s .z))) rfl pl30) rfl ?_
            refine J.p (PR.move rfl) rfl ?_
            refine J.p (PR.idx u30 sz66 rfl rfl rfl (by omega) hg.sm) rfl ?_
            refine J.p (PR.fldP u66 rfl sz2 rfl (hg.sm (i := j) (by omega))) rfl ?_
            refine J.p (PR.loadH rfl (hg.fac (by omega)) pl2) rfl ?_
            refine J.p (PR.mul rfl rfl (by first | exact nw _ (by omega) | rfl)) rfl ?_
            refine J.call fn69 rfl rfl fun w hH => (l01Mod_c (by omega) hH).mono ?_
            rintro _ w ⟨rfl, hH⟩
            refine ⟨_, rfl, fun a hF => J.of hF hH ?_⟩
            refine J.p (PR.assign rfl) rfl ?_
            refine J.nil ?_
            refine EJ.thenN (hK51 ?_)
            refine CJ.seq fun _ hK52 _ => ?_
            refine CJ.region ?_
            refine J.p (PR.move rfl) rfl ?_
            refine J.p (PR.neq rfl rfl) rfl ?_
            refine J.nil ?_
            refine EJ.thenN (hK52 ?_)
            refine CJ.condD rfl (fun h132 => ?_) (fun h132 => ?_)
            ·
              refine CJ.head [[], [0], [], [2], [], [3, 4], [5], [6], [], [7, 8], [9]] (by kernel_rfl) ?_
              refine HJ.op (fun gh => PR.fldA u32 rfl sz30 rfl) ?_
              refine HJ.op (fun gh => PR.load rfl At.z rfl pl30) ?_
              refine HJ.op (fun gh => PR.fldA u32 rfl sz30 rfl) ?_
              refine HJ.op (fun gh => PR.load rfl (.s (.s (.s .z))) rfl pl30) ?_
              refine HJ.op (fun gh => PR.move rfl) ?_
              refine HJ.op (fun gh => PR.idx u30 sz66 rfl rfl rfl (by omega) hg.sm) ?_
              refine HJ.op (fun gh => PR.fldP u66 rfl sz64 rfl (hg.sm (i := j) (by omega))) ?_
              refine HJ.op (fun gh => PR.loadHagg rfl (hg.mono (by omega)) (hg.sm (i := j) (by omega)) (by rw [bytesC_length, (hg.wf _ (by omega)).mono.len]; exact ag64)) ?_
              refine HJ.op (fun gh => PR.move rfl) ?_
              refine HJ.op (fun gh => PR.build2 rfl rfl (fun w => bt66 _ _ (hg.wf j (by omega)).mono.len w)) ?_
              refine HJ.mk (fun gh => MK.lit1T u30 ze66 sz66 (Term.wf.of (hg.wf j (by omega)).mono (by omega)) rfl) ?_
              refine HJ.close 11 3 foll0 (by kernel_rfl) rfl rfl fun gh => ?_
              refine J.conv (us' := (133, _) :: (134, _) :: (135, _) :: (136, _) :: (137, _) :: (138, _) :: (139, _) :: (140, _) :: (141, _) :: (142, _) :: (143, _) :: _) (L' := _ :: _) rfl rfl ?_
              refine J.appendOT u30 ze66 sz66 by66 rfl rfl (by simp only [List.length_cons, List.length_nil]; omega) .z (.s .z) (fun _ _ => (.s .z)) rfl fun qo144 co144 => ?_
              refine J.p (PR.fldA u32 rfl sz30 rfl) rfl ?_
              refine J.store rfl rfl rfl rfl sz30 (by simp [*]) (.s .z) ?_
              refine J.nil ?_
              refine EJ.still ?_
              refine JS.nil ?_
              refine EJ.thenN (hK50 ?_)
              refine CJ.region ?_
              refine J.p (PR.move rfl) rfl ?_
              refine J.p (PR.add rfl rfl (by first | exact nw _ (by omega) | rfl)) rfl ?_
              refine J.p (PR.assign rfl) rfl ?_
              refine J.nil ?_
              refine EJ.inN ?_
              refine EJ.inN ?_
              refine EJ.thenN ?_
              refine EJ.drop .z ?_
              exact hAg0 (qo144, co144, O ++ [⟨(tm g j).mono, fld (k * (tm g j).fac)⟩], i, j + 1) ⟨by omega, by omega, hO.app ((mrgB1 (by omega) (by omega)).trans (if_neg h132))⟩ (by show f.length + g.length - _ < f.length + g.length - (i + j); omega) 91 rfl rfl ⟨rfl, ⟨rfl, trivial⟩⟩ rfl rfl
            ·
              refine CJ.skip ?_
              refine EJ.thenN (hK50 ?_)
              refine CJ.region ?_
              refine J.p (PR.move rfl) rfl ?_
              refine J.p (PR.add rfl rfl (by first | exact nw _ (by omega) | rfl)) rfl ?_
              refine J.p (PR.assign rfl) rfl ?_
              refine J.nil ?_
              refine EJ.inN ?_
              refine EJ.inN ?_
              refine EJ.thenN ?_
              exact hAg0 (q, c, O, i, j + 1) ⟨by omega, by omega, hO.skip ((mrgB1 (by omega) (by omega)).trans (if_pos (Decidable.not_not.1 h132)))⟩ (by show f.length + g.length - _ < f.length + g.length - (i + j); omega) 78 rfl rfl ⟨rfl, ⟨rfl, trivial⟩⟩ rfl rfl
          ·
            try have h107p := of_decide_eq_false h107
            refine HJ.gy (fun gh => PR.fldA u32 rfl sz30 rfl) rfl (fun gh => rfl) h107 ?_
            refine HJ.gy (fun gh => PR.load rfl (.s (.s (.s .z))) rfl pl30) rfl (fun gh => rfl) h107 ?_
            refine HJ.gy (fun gh => PR.move rfl) rfl (fun gh => rfl) h107 ?_
            refine HJ.gy (fun gh => PR.idx u30 sz66 rfl rfl rfl (by omega) hg.sm) rfl (fun gh => rfl) h107 ?_
            refine HJ.gy (fun gh => PR.fldP u66 rfl sz64 rfl (hg.sm (i := j) (by omega))) rfl (fun gh => rfl) h107 ?_
            refine HJ.gy (fun gh => PR.loadHagg rfl (hg.mono (by omega)) (hg.sm (i := j) (by omega)) (by rw [bytesC_length, (hg.wf _ (by omega)).mono.len]; exact ag64)) rfl (fun gh => rfl) h107 ?_
            refine HJ.gy (fun gh => PR.fldA u32 rfl sz30 rfl) rfl (fun gh => rfl) h107 ?_
            refine HJ.gy (fun gh => PR.load rfl (.s (.s (.s (.s .z)))) rfl pl30) rfl (fun gh => rfl) h107 ?_
            refine HJ.gy (fun gh => PR.move rfl) rfl (fun gh => rfl) h107 ?_
            refine HJ.gy (fun gh => PR.idx u30 sz66 rfl rfl rfl (by omega) hf.sm) rfl (fun gh => rfl) h107 ?_
            refine HJ.gy (fun gh => PR.fldP u66 rfl sz64 rfl (hf.sm (i := i) (by omega))) rfl (fun gh => rfl) h107 ?_
            refine HJ.gy (fun gh => PR.loadHagg rfl (hf.mono (by omega)) (hf.sm (i := i) (by omega)) (by rw [bytesC_length, (hf.wf _ (by omega)).mono.len]; exact ag64)) rfl (fun gh => rfl) h107 ?_
            refine HJ.close 18 1 foll0 (by kernel_rfl) rfl rfl fun gh => ?_
            refine J.conv (us' := (102, _) :: (103, _) :: (104, _) :: (105, _) :: (106, _) :: (107, _) :: (108, _) :: (109, _) :: (110, _) :: (111, _) :: (112, _) :: (113, _) :: (114, _) :: (115, _) :: (116, _) :: (117, _) :: (118, _) :: (119, _) :: _) (L' := _) rfl rfl ?_
            refine J.gcall fn51 rfl rfl h107 rfl rfl fun w hH => (l01Before_c (hg.wf j (by omega)).mono (hf.wf i (by omega)).mono hH).mono ?_
            rintro _ w ⟨rfl, hH⟩
            refine ⟨_, rfl, fun a hF => J.of hF hH ?_⟩
            refine J.nil ?_
            refine EJ.still ?_
            refine JS.op (PR.pickF rfl h107 rfl) rfl ?_
            refine JS.op (PR.assign rfl) rfl ?_
            refine JS.nil ?_
            refine EJ.thenN (hK49 ?_)
            refine CJ.cond rfl (fun h101 => ?_) (fun h101 => ?_)
            ·
              have hjl : j < g.length := by omega
              have hyv := hsg.val _ (toS_at (ts := g) hjl)
              simp only at hyv
              have kb := mul_sb (b := (tm g j).fac) (B := 10006) (show -10006 ≤ k ∧ k ≤ 10006 by omega) hyv
              have fb := fld_bd (k * (tm g j).fac)
              refine CJ.seq fun _ hK53 _ => ?_
              refine CJ.seq fun _ hK54 _ => ?_
              refine CJ.region ?_
              refine J.p (PR.move rfl) rfl ?_
              refine J.p (PR.fldA u32 rfl sz30 rfl) rfl ?_
              refine J.p (PR.load rfl (.s (.s (.s .z))) rfl pl30) rfl ?_
              refine J.p (PR.move rfl) rfl ?_
              refine J.p (PR.idx u30 sz66 rfl rfl rfl (by omega) hg.sm) rfl ?_
              refine J.p (PR.fldP u66 rfl sz2 rfl (hg.sm (i := j) (by omega))) rfl ?_
              refine J.p (PR.loadH rfl (hg.fac (by omega)) pl2) rfl ?_
              refine J.p (PR.mul rfl rfl (by first | exact nw _ (by omega) | rfl)) rfl ?_
              refine J.call fn69 rfl rfl fun w hH => (l01Mod_c (by omega) hH).mono ?_
              rintro _ w ⟨rfl, hH⟩
              refine ⟨_, rfl, fun a hF => J.of hF hH ?_⟩
              refine J.p (PR.assign rfl) rfl ?_
              refine J.nil ?_
              refine EJ.thenN (hK54 ?_)
              refine CJ.seq fun _ hK55 _ => ?_
              refine CJ.region ?_
              refine J.p (PR.move rfl) rfl ?_
              refine J.p (PR.neq rfl rfl) rfl ?_
              refine J.nil ?_
              refine EJ.thenN (hK55 ?_)
              refine CJ.condD rfl (fun h132 => ?_) (fun h132 => ?_)
              ·
                refine CJ.head [[], [0], [], [2], [], [3, 4], [5], [6], [], [7, 8], [9]] (by kernel_rfl) ?_
                refine HJ.op (fun gh => PR.fldA u32 rfl sz30 rfl) ?_
                refine HJ.op (fun gh => PR.load rfl At.z rfl pl30) ?_
                refine HJ.op (fun gh => PR.fldA u32 rfl sz30 rfl) ?_
                refine HJ.op (fun gh => PR.load rfl (.s (.s (.s .z))) rfl pl30) ?_
                refine HJ.op (fun gh => PR.move rfl) ?_
                refine HJ.op (fun gh => PR.idx u30 sz66 rfl rfl rfl (by omega) hg.sm) ?_
                refine HJ.op (fun gh => PR.fldP u66 rfl sz64 rfl (hg.sm (i := j) (by omega))) ?_
                refine HJ.op (fun gh => PR.loadHagg rfl (hg.mono (by omega)) (hg.sm (i := j) (by omega)) (by rw [bytesC_length, (hg.wf _ (by omega)).mono.len]; exact ag64)) ?_
                refine HJ.op (fun gh => PR.move rfl) ?_
                refine HJ.op (fun gh => PR.build2 rfl rfl (fun w => bt66 _ _ (hg.wf j (by omega)).mono.len w)) ?_
                refine HJ.mk (fun gh => MK.lit1T u30 ze66 sz66 (Term.wf.of (hg.wf j (by omega)).mono (by omega)) rfl) ?_
                refine HJ.close 11 3 foll0 (by kernel_rfl) rfl rfl fun gh => ?_
                refine J.conv (us' := (133, _) :: (134, _) :: (135, _) :: (136, _) :: (137, _) :: (138, _) :: (139, _) :: (140, _) :: (141, _) :: (142, _) :: (143, _) :: _) (L' := _ :: _) rfl rfl ?_
                refine J.appendOT u30 ze66 sz66 by66 rfl rfl (by simp only [List.length_cons, List.length_nil]; omega) .z (.s .z) (fun _ _ => (.s .z)) rfl fun qo144 co144 => ?_
                refine J.p (PR.fldA u32 rfl sz30 rfl) rfl ?_
                refine J.store rfl rfl rfl rfl sz30 (by simp [*]) (.s .z) ?_
                refine J.nil ?_
                refine EJ.still ?_
                refine JS.nil ?_
                refine EJ.thenN (hK53 ?_)
                refine CJ.region ?_
                refine J.p (PR.move rfl) rfl ?_
                refine J.p (PR.add rfl rfl (by first | exact nw _ (by omega) | rfl)) rfl ?_
                refine J.p (PR.assign rfl) rfl ?_
                refine J.nil ?_
                refine EJ.inN ?_
                refine EJ.inN ?_
                refine EJ.thenN ?_
                refine EJ.drop .z ?_
                exact hAg0 (qo144, co144, O ++ [⟨(tm g j).mono, fld (k * (tm g j).fac)⟩], i, j + 1) (by exfalso; omega) (by show f.length + g.length - _ < f.length + g.length - (i + j); omega) 91 rfl rfl ⟨rfl, ⟨rfl, trivial⟩⟩ rfl rfl
              ·
                refine CJ.skip ?_
                refine EJ.thenN (hK53 ?_)
                refine CJ.region ?_
                refine J.p (PR.move rfl) rfl ?_
                refine J.p (PR.add rfl rfl (by first | exact nw _ (by omega) | rfl)) rfl ?_
                refine J.p (PR.assign rfl) rfl ?_
                refine J.nil ?_
                refine EJ.inN ?_
                refine EJ.inN ?_
                refine EJ.thenN ?_
                exact hAg0 (q, c, O, i, j + 1) (by exfalso; omega) (by show f.length + g.length - _ < f.length + g.length - (i + j); omega) 78 rfl rfl ⟨rfl, ⟨rfl, trivial⟩⟩ rfl rfl
            ·
              have hil : i < f.length := by omega
              have hxv := hsf.val _ (toS_at (ts := f) hil)
              simp only at hxv
              have fb2 := fld_bd ((tm f i).fac + fld (k * (tm g j).fac))
              have hjl : j < g.length := by omega
              have hyv := hsg.val _ (toS_at (ts := g) hjl)
              simp only at hyv
              have kb := mul_sb (b := (tm g j).fac) (B := 10006) (show -10006 ≤ k ∧ k ≤ 10006 by omega) hyv
              have fb := fld_bd (k * (tm g j).fac)
              refine CJ.seq fun _ hK56 _ => ?_
              refine CJ.seq fun _ hK57 _ => ?_
              refine CJ.head [[], [0], [], [1, 2], [3], [4], [], [], [7], [], [8, 9], [10], [11], [6, 12], [13]] (by kernel_rfl) ?_
              refine HJ.op (fun gh => PR.fldA u32 rfl sz30 rfl) ?_
              refine HJ.op (fun gh => PR.load rfl (.s (.s (.s (.s .z)))) rfl pl30) ?_
              refine HJ.op (fun gh => PR.move rfl) ?_
              refine HJ.op (fun gh => PR.idx u30 sz66 rfl rfl rfl (by omega) hf.sm) ?_
              refine HJ.op (fun gh => PR.fldP u66 rfl sz2 rfl (hf.sm (i := i) (by omega))) ?_
              refine HJ.op (fun gh => PR.loadH rfl (hf.fac (by omega)) pl2) ?_
              refine HJ.op (fun gh => PR.move rfl) ?_
              refine HJ.op (fun gh => PR.fldA u32 rfl sz30 rfl) ?_
              refine HJ.op (fun gh => PR.load rfl (.s (.s (.s .z))) rfl pl30) ?_
              refine HJ.op (fun gh => PR.move rfl) ?_
              refine HJ.op (fun gh => PR.idx u30 sz66 rfl rfl rfl (by omega) hg.sm) ?_
              refine HJ.op (fun gh => PR.fldP u66 rfl sz2 rfl (hg.sm (i := j) (by omega))) ?_
              refine HJ.op (fun gh => PR.loadH rfl (hg.fac (by omega)) pl2) ?_
              refine HJ.op (fun gh => PR.mul rfl rfl (by first | exact nw _ (by omega) | rfl)) ?_
              refine HJ.call fn69 (fun gh => rfl) (fun w X hH => l01Mod_c (by omega) hH) ?_
              refine HJ.close 15 2 foll0 (by kernel_rfl) rfl rfl fun gh => ?_
              refine J.conv (us' := (25, _) :: (26, _) :: (27, _) :: (28, _) :: (29, _) :: (30, _) :: (31, _) :: (32, _) :: (33, _) :: (34, _) :: (35, _) :: (36, _) :: (37, _) :: (38, _) :: (39, _) :: _) (L' := _) rfl rfl ?_
              refine J.p (PR.add rfl rfl (by first | exact nw _ (by omega) | rfl)) rfl ?_
              refine J.call fn69 rfl rfl fun w hH => (l01Mod_c (by omega) hH).mono ?_
              rintro _ w ⟨rfl, hH⟩
              refine ⟨_, rfl, fun a hF => J.of hF hH ?_⟩
              refine J.nil ?_
              refine EJ.still ?_
              refine JS.op (PR.assign rfl) rfl ?_
              refine JS.nil ?_
              refine EJ.thenN (hK57 ?_)
              refine CJ.seq fun _ hK58 _ => ?_
              refine CJ.region ?_
              refine J.p (PR.move rfl) rfl ?_
              refine J.p (PR.neq rfl rfl) rfl ?_
              refine J.nil ?_
              refine EJ.thenN (hK58 ?_)
              refine CJ.condD rfl (fun h43 => ?_) (fun h43 => ?_)
              ·
                refine CJ.head [[], [0], [], [2], [], [3, 4], [5], [6], [], [7, 8], [9]] (by kernel_rfl) ?_
                refine HJ.op (fun gh => PR.fldA u32 rfl sz30 rfl) ?_
                refine HJ.op (fun gh => PR.load rfl At.z rfl pl30) ?_
                refine HJ.op (fun gh => PR.fldA u32 rfl sz30 rfl) ?_
                refine HJ.op (fun gh => PR.load rfl (.s (.s (.s (.s .z)))) rfl pl30) ?_
                refine HJ.op (fun gh => PR.move rfl) ?_
                refine HJ.op (fun gh => PR.idx u30 sz66 rfl rfl rfl (by omega) hf.sm) ?_
                refine HJ.op (fun gh => PR.fldP u66 rfl sz64 rfl (hf.sm (i := i) (by omega))) ?_
                refine HJ.op (fun gh => PR.loadHagg rfl (hf.mono (by omega)) (hf.sm (i := i) (by omega)) (by rw [bytesC_length, (hf.wf _ (by omega)).mono.len]; exact ag64)) ?_
                refine HJ.op (fun gh => PR.move rfl) ?_
                refine HJ.op (fun gh => PR.build2 rfl rfl (fun w => bt66 _ _ (hf.wf i (by omega)).mono.len w)) ?_
                refine HJ.mk (fun gh => MK.lit1T u30 ze66 sz66 (Term.wf.of (hf.wf i (by omega)).mono (by omega)) rfl) ?_
                refine HJ.close 11 3 foll0 (by kernel_rfl) rfl rfl fun gh => ?_
                refine J.conv (us' := (44, _) :: (45, _) :: (46, _) :: (47, _) :: (48, _) :: (49, _) :: (50, _) :: (51, _) :: (52, _) :: (53, _) :: (54, _) :: _) (L' := _ :: _) rfl rfl ?_
                refine J.appendOT u30 ze66 sz66 by66 rfl rfl (by simp only [List.length_cons, List.length_nil]; omega) .z (.s .z) (fun _ _ => (.s .z)) rfl fun qo55 co55 => ?_
                refine J.p (PR.fldA u32 rfl sz30 rfl) rfl ?_
                refine J.store rfl rfl rfl rfl sz30 (by simp [*]) (.s .z) ?_
                refine J.nil ?_
                refine EJ.still ?_
                refine JS.nil ?_
                refine EJ.thenN (hK56 ?_)
                refine CJ.seq fun _ hK59 _ => ?_
                refine CJ.region ?_
                refine J.p (PR.move rfl) rfl ?_
                refine J.p (PR.add rfl rfl (by first | exact nw _ (by omega) | rfl)) rfl ?_
                refine J.p (PR.assign rfl) rfl ?_
                refine J.nil ?_
                refine EJ.thenN (hK59 ?_)
                refine CJ.region ?_
                refine J.p (PR.move rfl) rfl ?_
                refine J.p (PR.add rfl rfl (by first | exact nw _ (by omega) | rfl)) rfl ?_
                refine J.p (PR.assign rfl) rfl ?_
                refine J.nil ?_
                refine EJ.inN ?_
                refine EJ.inN ?_
                refine EJ.thenN ?_
                refine EJ.drop .z ?_
                exact hAg0 (qo55, co55, O ++ [⟨(tm f i).mono, fld ((tm f i).fac + fld (k * (tm g j).fac))⟩], i + 1, j + 1) (by exfalso; omega) (by show f.length + g.length - _ < f.length + g.length - (i + j); omega) 102 rfl rfl ⟨rfl, ⟨rfl, trivial⟩⟩ rfl rfl
              ·
                refine CJ.skip ?_
                refine EJ.thenN (hK56 ?_)
                refine CJ.seq fun _ hK60 _ => ?_
                refine CJ.region ?_
                refine J.p (PR.move rfl) rfl ?_
                refine J.p (PR.add rfl rfl (by first | exact nw _ (by omega) | rfl)) rfl ?_
                refine J.p (PR.assign rfl) rfl ?_
                refine J.nil ?_
                refine EJ.thenN (hK60 ?_)
                refine CJ.region ?_
                refine J.p (PR.move rfl) rfl ?_
                refine J.p (PR.add rfl rfl (by first | exact nw _ (by omega) | rfl)) rfl ?_
                refine J.p (PR.assign rfl) rfl ?_
                refine J.nil ?_
                refine EJ.inN ?_
                refine EJ.inN ?_
                refine EJ.thenN ?_
                exact hAg0 (q, c, O, i + 1, j + 1) (by exfalso; omega) (by show f.length + g.length - _ < f.length + g.length - (i + j); omega) 89 rfl rfl ⟨rfl, ⟨rfl, trivial⟩⟩ rfl rfl
    ·
      refine CJ.exit ?_
      refine EJ.thenE ?_
      refine EJ.thenE ?_
      refine EJ.inE ?_
      refine EJ.thenN (hK4 ?_)
      refine CJ.seq fun _ hK61 _ => ?_
      refine CJ.region ?_
      refine J.p (PR.loadAll rfl At.z (by simpa [*] using ag32)) rfl ?_
      refine J.storeAll rfl rfl (by first | exact bytesC_one _ | exact intsC_one _ | exact Term.c_one _ | simp [Value.oneCell']) (by simpa [*] using sz32) (by simp [*]) (.s (.s .z)) ?_
      refine J.nil ?_
      refine EJ.thenN (hK61 ?_)
      refine CJ.ret ?_
      refine EJ.ret1 rfl (Res.agg rfl (.s (.s .z)) (by simpa [*] using ag32)) fun w hH => ?_
      replace hH := hH.sublist (.cons _ (.cons_cons _ (.cons _ (.cons _ (.cons _ (List.Sublist.refl _))))))
      obtain rfl : i = f.length := by omega
      obtain rfl : j = g.length := by omega
      unfold MgAt at hO
      rw [List.drop_length, List.drop_length, mrg_nn, List.append_nil] at hO
      have e9 := hO.trans (mrg_acc hsf hsg)
      subst e9
      exact ⟨_, _, rfl, hH⟩
end Go.Proofs.YtbjhllmcnfncdaaDoor.G
namespace Go.Proofs.YtbjhllmcnfncdaaDoor.G
open Go Go.RowKit
namespace Xn
theorem u30 : Tryd.prog.underlying 30 = some (TypeDesc.slice 66) := by kernel_rfl
theorem u32 : Tryd.prog.underlying 32 = some (TypeDesc.struct #[{ name := "Terms", type := 30, offset := 0, embedded := false, tag := "", pkgPath := "", byteOffset := 0 }]) := by kernel_rfl
theorem u64 : Tryd.prog.underlying 64 = some (TypeDesc.array 8 5) := by kernel_rfl
theorem u66 : Tryd.prog.underlying 66 = some (TypeDesc.struct #[{ name := "Monomial", type := 64, offset := 0, embedded := false, tag := "", pkgPath := "", byteOffset := 0 }, { name := "Factor", type := 2, offset := 8, embedded := false, tag := "", pkgPath := "", byteOffset := 8 }]) := by kernel_rfl
theorem sz30 : Size Tryd.prog 30 1 := by unfold Size; kernel_rfl
theorem sz32 : Size Tryd.prog 32 1 := by unfold Size; kernel_rfl
theorem sz66 : Size Tryd.prog 66 9 := by unfold Size; kernel_rfl
theorem bz32 : ∀ w, (Instr.build 32 #[]).run Tryd.prog w = .ok (.agg [.slice none 0 0].toArray) w := fun _ => by kernel_rfl
theorem ze32 : Zero Tryd.prog 32 [.slice none 0 0] := by unfold Zero; kernel_rfl
theorem ze66 : Zero Tryd.prog 66 [.int .u8 0, .int .u8 0, .int .u8 0, .int .u8 0, .int .u8 0, .int .u8 0, .int .u8 0, .int .u8 0, .int .i64 0] := by unfold Zero; kernel_rfl
theorem pl30 : Plain Tryd.prog 30 := ⟨_, u30, rfl⟩
theorem ag32 : Agg Tryd.prog 32 1 := ⟨_, u32, rfl, by kernel_rfl⟩
theorem ag64 : Agg Tryd.prog 64 8 := ⟨_, u64, rfl, by kernel_rfl⟩
theorem ag66 : Agg Tryd.prog 66 9 := ⟨_, u66, rfl, by kernel_rfl⟩
theorem fn68 : Fn Tryd.prog 68 := ⟨_, Tryd.func68, by kernel_rfl, rfl⟩
theorem fn69 : Fn Tryd.prog 69 := ⟨_, Tryd.func69, by kernel_rfl, rfl⟩
theorem fn79 : Fn Tryd.prog 79 := ⟨_, Tryd.func79, by kernel_rfl, rfl⟩
theorem bd32_0 : ∀ (q0 : Option Addr) (m0 c0 : Nat) w, (Instr.build 32 #[(0, .slice q0 m0 c0)]).run Tryd.prog w = .ok (.agg [.slice q0 m0 c0].toArray) w := fun q0 m0 c0 _ => by kernel_rfl
theorem bt66 : ∀ (m : List Int) (f : Int), m.length = 8 → ∀ w, (Instr.build 66 #[(0, .agg (bytesC m).toArray), (1, .int .i64 f)]).run Tryd.prog w = .ok (.agg ((⟨m, f⟩ : Term).c).toArray) w := fun m f hm w => by
  obtain ⟨a0, a1, a2, a3, a4, a5, a6, a7, rfl⟩ := list8_ex hm
  kernel_rfl
theorem foll0 : Tryd.prog.follows .mixedOrders = true := by kernel_rfl
end Xn
open Xn
theorem addS_len (s : Sm) (p : Pw) (k : Int) : (addS s p k).length ≤ s.length + 1 := by
  induction s with
  | nil => simp only [addS]; split <;> simp
  | cons x s ih =>
    simp only [addS]
    split
    · split
      · simp; omega
      · simp
    · split
      · split <;> simp
      · simp only [List.length_cons]; omega
theorem acc_len (l : Sm) : ∀ s : Sm, (acc s l).length ≤ s.length + l.length := by
  induction l with
  | nil => intro s; simp [acc]
  | cons x l ih =>
    intro s
    rw [acc_cons]
    have h1 := ih (addS s x.1 x.2)
    have h2 := addS_len s x.1 x.2
    simp only [List.length_cons]
    omega
theorem mul1_len (ds : Pw) (x : Pw × Int) (t : Sm) : (mul1 ds x t).length ≤ t.length := by
  rw [mul1_raw, List.length_map]
  exact raw1_len ds x t
theorem mulL_len (ds : Pw) (t : Sm) : ∀ s : Sm, (mulL ds s t).length ≤ s.length * t.length
  | [] => by simp [mulL]
  | x :: s => by
    have h1 := mulL_len ds t s
    have h2 := mul1_len ds x t
    unfold mulL at h1 ⊢
    rw [List.flatMap_cons, List.length_append, List.length_cons, Nat.succ_mul]
    omega
theorem gmulL {ds : Pw} {s t : Sm} {M N : Int} (hs : Gok M s) (ht : Gok N t) : ∀ z ∈ mulL ds s t, Pok (M + N) z.1 := fun z hz => by
  obtain ⟨x, hx, y, hy, _, e⟩ := mulL_mem hz
  rw [e]
  exact (hs.key x hx).add (ht.key y hy)
theorem mulL_one (ds : Pw) {ts : List Term} {k : Nat} (hk : k < ts.length) (t : Sm) : mulL ds (toS (ts.take (k + 1))) t = mulL ds (toS (ts.take k)) t ++ mul1 ds ((tm ts k).mono, (tm ts k).fac) t := by
  rw [toS_take hk]
  unfold mulL
  rw [List.flatMap_append]
  simp
theorem acc_mulL {ds : Pw} {ts : List Term} {k : Nat} (hk : k < ts.length) (t : Sm) : acc (acc [] (mulL ds (toS (ts.take k)) t)) (scl (shf ds ((tm ts k).mono, (tm ts k).fac) t) 1) = acc [] (mulL ds (toS (ts.take (k + 1))) t) := by
  rw [acc_shf, mulL_one ds hk, acc_app]
theorem mulL_kex {ds : Pw} {s t : Sm} {M N : Int} (hs : Gok M s) (ht : Gok N t) (h1 : KEx ds s) (h2 : KEx ds t) : KEx ds (mulL ds s t) := fun z hz => by
  obtain ⟨x, hx, h⟩ := List.mem_flatMap.1 hz
  exact mul1_kex (hs.key x hx) ht (h1 x hx) h2 z h
theorem KEx.nil {ds : Pw} : KEx ds [] := fun x hx => by simp at hx
theorem times_kex {ds : Pw} {s t : Sm} {M N : Int} (hs : Gok M s) (ht : Gok N t) (h1 : KEx ds s) (h2 : KEx ds t) : KEx ds (timesS ds s t) := acc_kex KEx.nil (mulL_kex hs ht h1 h2)
theorem gtimes {ds : Pw} {s t : Sm} {M N : Int} (hs : Gok M s) (ht : Gok N t) : Sok (M + N) (timesS ds s t) := Sok.nil.acc (gmulL hs ht)
theorem times_lens {ds : Pw} {x : Pw × Int} {f g : List Term} {k : Nat} (hk : k < f.length) (hl : f.length * g.length ≤ 1000000000) : (ofS (acc [] (mulL ds (toS (f.take k)) (toS g)))).length + (ofS (shf ds x (toS g))).length ≤ 1000000000 := by
  have h1 := acc_len (mulL ds (toS (f.take k)) (toS g)) []
  have h2 := mulL_len ds (toS g) (toS (f.take k))
  have h3 := shf_len ds x (toS g)
  have h4 : (k + 1) * g.length ≤ f.length * g.length := Nat.mul_le_mul_right _ hk
  rw [toS_len, toS_len, List.length_take_of_le (by omega)] at h2
  rw [toS_len] at h3
  rw [ofS_len, ofS_len]
  rw [Nat.succ_mul] at h4
  simp only [List.length_nil] at h1
  omega
theorem times_len (ds : Pw) (s t : Sm) : (timesS ds s t).length ≤ s.length * t.length := by
  have h1 := acc_len (mulL ds s t) []
  have h2 := mulL_len ds t s
  unfold timesS
  simp only [List.length_nil] at h1
  omega
set_option maxRecDepth 10000 in
theorem l01Single_c {B : World} {H0 H : HP} {L : List SA} {w : World} {m : List Int} {x : Int}  (hm : Mono m) (hx : -1000000000000 ≤ x ∧ x ≤ 1000000000000) (hH : Hp B H0 H L w) :
    Calls Tryd.prog 67 [.agg (bytesC m).toArray, .int .i64 x].toArray w fun e w' => ∃ q c, e = .returned (.agg [.slice q (ofS (addS [] m x)).length c].toArray) ∧ Hp B H0 H (own 66 9 q (ofS (addS [] m x)).length c (tsC (ofS (addS [] m x))) :: L) w' := by
  refine CJ.enter Tryd.func67 rfl 15 rfl rfl [(0, .agg (bytesC m).toArray), (1, .int .i64 x)] rfl hH ?_
  have hml := hm.len
  clear hH
  have fb := fld_bd x
  refine CJ.seq fun _ hK1 _ => ?_
  refine CJ.region ?_
  refine J.box rfl rfl rfl fun g2 => ?_
  refine J.alloc ze32 rfl fun g4 => ?_
  refine J.nil ?_
  refine EJ.thenN (hK1 ?_)
  refine CJ.seq fun _ hK2 _ => ?_
  refine CJ.seq fun _ hK3 _ => ?_
  refine CJ.region ?_
  refine J.p (PR.move rfl) rfl ?_
  refine J.call fn69 rfl rfl fun w hH => (l01Mod_c (by omega) hH).mono ?_
  rintro _ w ⟨rfl, hH⟩
  refine ⟨_, rfl, fun a hF => J.of hF hH ?_⟩
  refine J.p (PR.eql rfl rfl) rfl ?_
  refine J.nil ?_
  refine EJ.thenN (hK3 ?_)
  refine CJ.condD rfl (fun h7 => ?_) (fun h7 => ?_)
  ·
    refine CJ.seq fun _ hK4 _ => ?_
    refine CJ.region ?_
    refine J.own0 66 9 ?_
    refine J.p (PR.buildZ bz32) rfl ?_
    refine J.storeAll rfl rfl (by first | exact bytesC_one _ | exact intsC_one _ | exact Term.c_one _ | simp [Value.oneCell']) (by simpa [*] using sz32) (by simp [*]) (.s .z) ?_
    refine J.nil ?_
    refine EJ.thenN (hK4 ?_)
    refine CJ.ret ?_
    refine EJ.thenR ?_
    refine EJ.ret1 rfl (Res.agg rfl (.s .z) (by simpa [*] using ag32)) fun w hH => ?_
    replace hH := hH.sublist (.cons_cons _ (.cons _ (.cons _ (List.Sublist.refl _))))
    have e9 : ofS (addS [] m x) = [] := by simp only [addS]; rw [if_pos h7]; rfl
    rw [e9]
    exact ⟨_, _, rfl, hH⟩
  ·
    refine CJ.skip ?_
    refine EJ.thenN (hK2 ?_)
    refine CJ.seq fun _ hK5 _ => ?_
    refine CJ.head [[], [], [1]] (by kernel_rfl) ?_
    refine HJ.op (fun gh => PR.loadAll rfl (.s .z) (by simpa [*] using ag64)) ?_
    refine HJ.op (fun gh => PR.move rfl) ?_
    refine HJ.call fn69 (fun gh => rfl) (fun w X hH => l01Mod_c (by omega) hH) ?_
    refine HJ.close 3 4 foll0 (by kernel_rfl) rfl rfl fun gh => ?_
    refine J.conv (us' := (9, _) :: (10, _) :: (11, _) :: _) (L' := _) rfl rfl ?_
    refine J.p (PR.build2 rfl rfl (fun w => bt66 _ _ hm.len w)) rfl ?_
    refine J.mk (MK.lit1T u30 ze66 sz66 (Term.wf.of hm (by omega)) rfl) rfl fun qo13 co13 => ?_
    refine J.p (PR.build1 rfl (fun w => bd32_0 _ _ _ w)) rfl ?_
    refine J.storeAll rfl rfl (by first | exact bytesC_one _ | exact intsC_one _ | exact Term.c_one _ | simp [Value.oneCell']) (by simpa [*] using sz32) (by simp [*]) (.s .z) ?_
    refine J.nil ?_
    refine EJ.still ?_
    refine JS.nil ?_
    refine EJ.thenN (hK5 ?_)
    refine CJ.ret ?_
    refine EJ.ret1 rfl (Res.agg rfl (.s .z) (by simpa [*] using ag32)) fun w hH => ?_
    replace hH := hH.sublist (.cons_cons _ (.cons _ (.cons _ (List.Sublist.refl _))))
    have e9 : ofS (addS [] m x) = [⟨m, fld x⟩] := by simp only [addS]; rw [if_neg h7]; rfl
    rw [e9]
    exact ⟨_, _, rfl, hH⟩
set_option maxHeartbeats 8000000 in
set_option maxRecDepth 10000 in
theorem l01Times_c {B : World} {H0 H : HP} {L : List SA} {w : World} {qds : Option Addr} {cds : Nat} {ds : List Int} {qf : Option Addr} {cf : Nat} {f : List Term} {qg : Option Addr} {cg : Nat} {g : List Term} {M N : Int} (hds : Ints H qds ds) (hf : Terms H qf f) (hg : Terms H qg g) (hn : ds.length ≤ 8) (hd : ∀ j, 0 ≤ ds.getD j 0 ∧ ds.getD j 0 ≤ 12) (h1 : KEx ds (toS f)) (h2 : KEx ds (toS g)) (hp : Gok M (toS f)) (hq : Gok N (toS g)) (hM : M + N ≤ 255) (hl : f.length * g.length ≤ 1000000000) (hlf : f.length ≤ 1000000000) (hH : Hp B H0 H L w) :
    Calls Tryd.prog 66 [.slice qds ds.length cds, .agg [.slice qf f.length cf].toArray, .agg [.slice qg g.length cg].toArray].toArray w fun e w' => ∃ q c, e = .returned (.agg [.slice q (ofS (timesS ds (toS f) (toS g))).length c].toArray) ∧ Hp B H0 H (own 66 9 q (ofS (timesS ds (toS f) (toS g))).length c (tsC (ofS (timesS ds (toS f) (toS g)))) :: L) w' := by
  refine CJ.enter Tryd.func66 rfl 28 rfl rfl [(0, .slice qds ds.length cds), (1, .agg [.slice qf f.length cf].toArray), (2, .agg [.slice qg g.length cg].toArray)] rfl hH ?_
  clear hH
  have hw9 : ∀ k, Wfs (ofS (acc [] (mulL ds (toS (f.take k)) (toS g)))) := fun k => (Sok.nil.acc (gmulL (hp.take k) hq)).wf hM
  refine CJ.seq fun _ hK1 _ => ?_
  refine CJ.region ?_
  refine J.box rfl rfl rfl fun g4 => ?_
  refine J.box rfl rfl rfl fun g5 => ?_
  refine J.alloc ze32 rfl fun g6 => ?_
  refine J.nil ?_
  refine EJ.thenN (hK1 ?_)
  refine CJ.seq fun _ hK2 _ => ?_
  refine CJ.region ?_
  refine J.own0 66 9 ?_
  refine J.p (PR.buildZ bz32) rfl ?_
  refine J.alloc ze32 rfl fun g7 => ?_
  refine J.storeAll rfl rfl (by first | exact bytesC_one _ | exact intsC_one _ | exact Term.c_one _ | simp [Value.oneCell']) (by simpa [*] using sz32) (by simp [*]) At.z ?_
  refine J.nil ?_
  refine EJ.thenN (hK2 ?_)
  refine CJ.seq fun _ hK3 _ => ?_
  refine CJ.seq fun _ hK4 _ => ?_
  refine CJ.region ?_
  refine J.p (PR.assign rfl) rfl ?_
  refine J.nil ?_
  refine EJ.thenN (hK4 ?_)
  refine CJ.block ?_
  refine CJ.loopU (σ := Option Addr × Nat × Nat) (fun ⟨q, c, k⟩ => [(8, .int .i64 (k : Int))]) (fun ⟨q, c, k⟩ => H) (fun ⟨q, c, k⟩ => obj g7 (.cells [.slice q (ofS (acc [] (mulL ds (toS (f.take k)) (toS g)))).length c].toArray 32 (0, 0)) :: own 66 9 q (ofS (acc [] (mulL ds (toS (f.take k)) (toS g)))).length c (tsC (ofS (acc [] (mulL ds (toS (f.take k)) (toS g))))) :: obj g6 (.cells [.slice none 0 0].toArray 32 (0, 0)) :: obj g5 (.cells [.slice qg g.length cg].toArray 32 (0, 0)) :: obj g4 (.cells [.slice qf f.length cf].toArray 32 (0, 0)) :: L) (fun ⟨q, c, k⟩ => k ≤ f.length) (fun ⟨q, c, k⟩ => f.length - k) (none, 0, 0) (by show 0 ≤ f.length; omega) ⟨rfl, trivial⟩ rfl rfl ?_
  rintro ⟨q, c, k⟩ hI _ hAg0
  have hk := hI
  have wfO := hw9 k
  refine CJ.seq fun _ hK5 _ => ?_
  refine CJ.seq fun _ hK6 _ => ?_
  refine CJ.region ?_
  refine J.p (PR.move rfl) rfl ?_
  refine J.p (PR.fldA u32 rfl sz30 rfl) rfl ?_
  refine J.p (PR.load rfl (.s (.s (.s (.s .z)))) rfl pl30) rfl ?_
  refine J.p (PR.lenSlice u30 rfl rfl) rfl ?_
  refine J.p (PR.lss rfl rfl) rfl ?_
  refine J.nil ?_
  refine EJ.thenN (hK6 ?_)
  refine CJ.condD rfl (fun hc14 => ?_) (fun hc14 => ?_)
  ·
    refine CJ.skip ?_
    refine EJ.thenN (hK5 ?_)
    refine CJ.seq fun _ hK7 _ => ?_
    refine CJ.block ?_
    refine CJ.head [[], [], [], [2], [], [3, 4], [5], [], [1, 6, 7]] (by kernel_rfl) ?_
    refine HJ.op (fun gh => PR.loadAll rfl At.z (by simpa [*] using ag32)) ?_
    refine HJ.op (fun gh => PR.move rfl) ?_
    refine HJ.op (fun gh => PR.fldA u32 rfl sz30 rfl) ?_
    refine HJ.op (fun gh => PR.load rfl (.s (.s (.s (.s .z)))) rfl pl30) ?_
    refine HJ.op (fun gh => PR.move rfl) ?_
    refine HJ.op (fun gh => PR.idx u30 sz66 rfl rfl rfl (by omega) hf.sm) ?_
    refine HJ.op (fun gh => PR.loadHagg rfl (hf.cell _ (by omega)) (hf.sm (i := k) (by omega)) (by rw [Term.c_length (hf.wf _ (by omega))]; exact ag66)) ?_
    refine HJ.op (fun gh => PR.loadAll rfl (.s (.s (.s .z))) (by simpa [*] using ag32)) ?_
    refine HJ.callN fn79 (fun gh => rfl) (fun w X hH => l01Shift_c hds (hf.wf k (by omega)) hg hn hd (h1 _ (toS_at (by omega))) h2 (hp.key _ (toS_at (by omega))) hq hM (hp.val _ (toS_at (by omega))) (Nat.le_trans (Nat.le_mul_of_pos_left _ (by omega)) hl) hH) ?_
    refine HJ.close 9 2 foll0 (by kernel_rfl) rfl rfl fun gh => ?_
    refine J.conv (us' := (17, _) :: (18, _) :: (19, _) :: (20, _) :: (21, _) :: (22, _) :: (23, _) :: (24, _) :: (25, _) :: _) (L' := _ :: _) rfl rfl ?_
    refine J.call fn68 rfl rfl fun w hH => hH.lend (.s (.s .z)) fun Hl1 hle1 hA1 hB1 hH => hH.lend .z fun Hl2 hle2 hA2 hB2 hH => (l01Add_c ((own_terms wfO hA1).le hle2) (own_terms (Gok.wf (shf_g (hp.key _ (toS_at (by omega))) hq) hM) hA2) (by rw [toS_ofS]; exact Sok.nil.acc (gmulL (hp.take k) hq)) (by rw [toS_ofS]; exact shf_g (hp.key _ (toS_at (by omega))) hq) hM (by omega) (times_lens (by omega) hl) hH).mono ?_
    rintro _ w ⟨qo26, co26, rfl, hH⟩
    replace hH := hB2 _ _ hH
    replace hH := hB1 _ _ hH
    refine ⟨_, rfl, fun a hF => J.of hF hH ?_⟩
    refine J.storeAll rfl rfl (by first | exact bytesC_one _ | exact intsC_one _ | exact Term.c_one _ | simp [Value.oneCell']) (by simpa [*] using sz32) (by simp [*]) (.s (.s (.s .z))) ?_
    refine J.nil ?_
    refine EJ.still ?_
    refine JS.nil ?_
    refine EJ.inN ?_
    refine EJ.thenN (hK7 ?_)
    refine CJ.region ?_
    refine J.p (PR.move rfl) rfl ?_
    refine J.p (PR.add rfl rfl (by first | exact nw _ (by omega) | rfl)) rfl ?_
    refine J.p (PR.assign rfl) rfl ?_
    refine J.nil ?_
    refine EJ.thenN ?_
    refine EJ.drop .z ?_
    refine EJ.drop .z ?_
    refine EJ.front (.s (.s (.s (.s .z)))) ?_
    refine EJ.front (.s (.s (.s (.s .z)))) ?_
    refine EJ.front (.s (.s (.s (.s .z)))) ?_
    refine EJ.front (.s (.s (.s .z))) ?_
    refine EJ.front (.s (.s (.s (.s .z)))) ?_
    exact hAg0 (qo26, co26, k + 1) (by show k + 1 ≤ f.length; omega) (by show f.length - (k + 1) < f.length - k; omega) 19 rfl rfl ⟨rfl, trivial⟩ rfl (by simp only [toS_ofS]; rw [acc_mulL (by omega)])
  ·
    refine CJ.exit ?_
    refine EJ.thenE ?_
    refine EJ.thenE ?_
    refine EJ.inE ?_
    refine EJ.thenN (hK3 ?_)
    refine CJ.seq fun _ hK8 _ => ?_
    refine CJ.region ?_
    refine J.p (PR.loadAll rfl At.z (by simpa [*] using ag32)) rfl ?_
    refine J.storeAll rfl rfl (by first | exact bytesC_one _ | exact intsC_one _ | exact Term.c_one _ | simp [Value.oneCell']) (by simpa [*] using sz32) (by simp [*]) (.s (.s .z)) ?_
    refine J.nil ?_
    refine EJ.thenN (hK8 ?_)
    refine CJ.ret ?_
    refine EJ.ret1 rfl (Res.agg rfl (.s (.s .z)) (by simpa [*] using ag32)) fun w hH => ?_
    replace hH := hH.sublist (.cons _ (.cons_cons _ (.cons _ (.cons _ (.cons _ (List.Sublist.refl _))))))
    obtain rfl : k = f.length := by omega
    rw [List.take_length] at hH ⊢
    exact ⟨_, _, rfl, hH⟩
end Go.Proofs.YtbjhllmcnfncdaaDoor.G
