/- A part of the walk of one law: what the functions compute. No condition. -/
import Derived.Test.YtpojpokldncglaaRows
import Derived.Test.YtpojpokldncglaaProg
import Derived.WalkKit
import Derived.KernelRfl
import Derived.JoinedOf
import Derived.Maps.AppendAt
import Derived.Still
import Derived.ProofKit
import Derived.OpenShut
import Derived.StillTail
import Derived.Deep.Upon
import Derived.WalkSpells
import Derived.Maps.Range
import Derived.DeepKeys4
import Derived.ChangeOld
import Derived.Below
import Derived.SizedLaws
import Derived.Test.YtpojpokldncglaaPPrda
set_option linter.unusedVariables false
set_option linter.unusedSimpArgs false
namespace Go.Proofs.Ytpojpokldncglaa.G
open Go Go.RowKit
namespace Oc
theorem u2 : Try.prog.underlying 2 = some (TypeDesc.int .i64) := by kernel_rfl
theorem u22 : Try.prog.underlying 22 = some (TypeDesc.slice 2) := by kernel_rfl
theorem u29 : Try.prog.underlying 29 = some (TypeDesc.struct #[{ name := "Terms", type := 27, offset := 0, embedded := false, tag := "", pkgPath := "", byteOffset := 0 }]) := by kernel_rfl
theorem u39 : Try.prog.underlying 39 = some (TypeDesc.slice 29) := by kernel_rfl
theorem u41 : Try.prog.underlying 41 = some (TypeDesc.struct #[{ name := "Degrees", type := 22, offset := 0, embedded := false, tag := "", pkgPath := "", byteOffset := 0 }, { name := "Images", type := 39, offset := 1, embedded := false, tag := "", pkgPath := "", byteOffset := 24 }]) := by kernel_rfl
theorem sz2 : Size Try.prog 2 1 := by unfold Size; kernel_rfl
theorem sz22 : Size Try.prog 22 1 := by unfold Size; kernel_rfl
theorem sz29 : Size Try.prog 29 1 := by unfold Size; kernel_rfl
theorem sz39 : Size Try.prog 39 1 := by unfold Size; kernel_rfl
theorem sz41 : Size Try.prog 41 2 := by unfold Size; kernel_rfl
theorem by2 : Bytes Try.prog 2 8 := by unfold Bytes; kernel_rfl
theorem by29 : Bytes Try.prog 29 24 := by unfold Bytes; kernel_rfl
theorem ze2 : Zero Try.prog 2 [.int .i64 0] := by unfold Zero; kernel_rfl
theorem ze29 : Zero Try.prog 29 [.slice none 0 0] := by unfold Zero; kernel_rfl
theorem ze41 : Zero Try.prog 41 [.slice none 0 0, .slice none 0 0] := by unfold Zero; kernel_rfl
theorem bz41 : ∀ w, (Instr.build 41 #[]).run Try.prog w = .ok (.agg [.slice none 0 0, .slice none 0 0].toArray) w := fun _ => by kernel_rfl
theorem pl2 : Plain Try.prog 2 := ⟨_, u2, rfl⟩
theorem pl22 : Plain Try.prog 22 := ⟨_, u22, rfl⟩
theorem pl39 : Plain Try.prog 39 := ⟨_, u39, rfl⟩
theorem ag29 : Agg Try.prog 29 1 := ⟨_, u29, rfl, by kernel_rfl⟩
theorem ag41 : Agg Try.prog 41 2 := ⟨_, u41, rfl, by kernel_rfl⟩
theorem fn114 : Fn Try.prog 114 := ⟨_, Try.func114, by kernel_rfl, rfl⟩
theorem fn116 : Fn Try.prog 116 := ⟨_, Try.func116, by kernel_rfl, rfl⟩
theorem fn122 : Fn Try.prog 122 := ⟨_, Try.func122, by kernel_rfl, rfl⟩
theorem fn159 : Fn Try.prog 159 := ⟨_, Try.func159, by kernel_rfl, rfl⟩
theorem fn89 : Fn Try.prog 89 := ⟨_, Try.func89, by kernel_rfl, rfl⟩
theorem bd41_0 : ∀ (q0 : Option Addr) (m0 c0 : Nat) w, (Instr.build 41 #[(0, .slice q0 m0 c0)]).run Try.prog w = .ok (.agg [.slice q0 m0 c0, .slice none 0 0].toArray) w := fun q0 m0 c0 _ => by kernel_rfl
theorem foll0 : Try.prog.follows .mixedOrders = true := by kernel_rfl
end Oc
open Oc
def cpA (b : Nat) (fs : List (List Term)) : List (List Term) := fs.map (shF b)
def cpK (b : Nat) (fs : List (List Term)) (k : Nat) : List (List Term) := (fs.take k).map (shF b)
@[simp] theorem cpA_len (b : Nat) (fs : List (List Term)) : (cpA b fs).length = fs.length := by simp [cpA]
theorem cpK_len {b : Nat} {fs : List (List Term)} {k : Nat} (hk : k ≤ fs.length) : (cpK b fs k).length = k := by simp [cpK]; omega
theorem cpK_succ {b : Nat} {fs : List (List Term)} {k : Nat} (hk : k < fs.length) : cpK b fs (k + 1) = cpK b fs k ++ [shF b (fm fs k)] := by
  unfold cpK
  rw [take_fm hk, List.map_append]
  rfl
theorem cpK_end (b : Nat) (fs : List (List Term)) : cpK b fs fs.length = cpA b fs := by simp [cpK, cpA]
theorem cpA_wf {b : Nat} {fs : List (List Term)} (h : Wfss fs) : Wfss (cpA b fs) := fun f hf => by
  obtain ⟨ts, ht, rfl⟩ := List.mem_map.1 hf
  exact shF_wf (h ts ht)
theorem cpA_tot (b : Nat) : ∀ fs : List (List Term), tot (cpA b fs) = tot fs
  | [] => rfl
  | f :: fs => by
    have h1 := cpA_tot b fs
    simp only [cpA, List.map_cons, tot, shF_len] at h1 ⊢
    omega
theorem Wfss.app {fs gs : List (List Term)} (h : Wfss fs) (h2 : Wfss gs) : Wfss (fs ++ gs) := fun g hg => by
  rcases List.mem_append.1 hg with h1 | h1
  · exact h g h1
  · exact h2 g h1
section
variable {P : Program} {ops : Array Oper} {Q : Exit → Act → World → Prop} {n : Nat} {B : World} {H0 H : HP} {rest : List Oper} {us : List (Nat × Value)} {L L1 : List SA} {R : Act → World → Prop} {w : World}
theorem J.unFs {E T : TypeId} {q : Option Addr} {c : Nat} {vs : Vs} {fs : List (List Term)} (hr : Rm L (ownFs E T q c vs fs) L1) (k : J P ops Q n B H0 rest us H (ownTs T vs fs :: own E 1 q fs.length c (slicesC vs fs) :: L1)) : J P ops Q n B H0 rest us H L := fun a w hF hH => k a w hF ((hH.front hr).unstar.front (.s .z))
end
set_option maxHeartbeats 2000000 in
set_option maxRecDepth 10000 in
theorem l02Own_c {B : World} {H0 H : HP} {L : List SA} {w : World} {qad qaf : Option Addr} {cad caf : Nat} {ad : List Int} {af : List (List Term)}  (had : Ints H qad ad) (haf : Forms H qaf af) (hn : ad.length ≤ 1048576 ∧ af.length ≤ 1048576) (hl : ∀ i, i < af.length → (fm af i).length ≤ 1048576) (hH : Hp B H0 H L w) :
    Calls Try.prog 159 [.agg [.slice qad ad.length cad, .slice qaf af.length caf].toArray].toArray w fun e w' => ∃ qd cd qf cf vs, e = .returned (.agg [.slice qd ad.length cd, .slice qf af.length cf].toArray) ∧ Hp B H0 H (own 2 1 qd ad.length cd (intsC ad) :: ownFs 29 88 qf cf vs af :: L) w' := by
  refine CJ.enter Try.func159 rfl 28 rfl rfl [(0, .agg [.slice qad ad.length cad, .slice qaf af.length caf].toArray)] rfl hH ?_
  clear hH
  refine CJ.seq fun _ hK1 _ => ?_
  refine CJ.region ?_
  refine J.box rfl rfl rfl fun g1 => ?_
  refine J.alloc ze41 rfl fun g2 => ?_
  refine J.nil ?_
  refine EJ.thenN (hK1 ?_)
  refine CJ.seq fun _ hK2 _ => ?_
  refine CJ.region ?_
  refine J.p (PR.fldA u41 rfl sz22 rfl) rfl ?_
  refine J.p (PR.load rfl (.s .z) rfl pl22) rfl ?_
  refine J.call fn114 rfl rfl fun w hH => (l01Own_c had (by omega) hH).mono ?_
  rintro _ w ⟨qo7, co7, rfl, hH⟩
  refine ⟨_, rfl, fun a hF => J.of hF hH ?_⟩
  refine J.own0 29 1 ?_
  refine J.ts0 88 ?_
  refine J.p (PR.build1 rfl (fun w => bd41_0 _ _ _ w)) rfl ?_
  refine J.alloc ze41 rfl fun g3 => ?_
  refine J.storeAll rfl rfl (by first | exact bytesC_one _ | exact intsC_one _ | exact Term.c_one _ | simp [Value.oneCell']) (by simpa [*] using sz41) (by simp [*]) At.z ?_
  refine J.nil ?_
  refine EJ.thenN (hK2 ?_)
  refine CJ.seq fun _ hK3 _ => ?_
  refine CJ.seq fun _ hK4 _ => ?_
  refine CJ.region ?_
  refine J.p (PR.assign rfl) rfl ?_
  refine J.nil ?_
  refine EJ.thenN (hK4 ?_)
  refine CJ.block ?_
  refine CJ.loopU (σ := Option Addr × Nat × Vs × Nat) (fun ⟨q, c, vs, k⟩ => [(4, .int .i64 (k : Int))]) (fun ⟨q, c, vs, k⟩ => H) (fun ⟨q, c, vs, k⟩ => obj g3 (.cells [.slice qo7 ad.length co7, .slice q k c].toArray 41 (0, 0)) :: ownTs 88 vs (af.take k) :: own 29 1 q k c (slicesC vs (af.take k)) :: own 2 1 qo7 ad.length co7 (intsC ad) :: obj g2 (.cells [.slice none 0 0, .slice none 0 0].toArray 41 (0, 0)) :: obj g1 (.cells [.slice qad ad.length cad, .slice qaf af.length caf].toArray 41 (0, 0)) :: L) (fun ⟨q, c, vs, k⟩ => k ≤ af.length) (fun ⟨q, c, vs, k⟩ => af.length - k) (none, 0, nilVs, 0) (by show 0 ≤ af.length; omega) ⟨rfl, trivial⟩ rfl rfl ?_
  rintro ⟨q, c, vs, k⟩ hk _ hAg0
  have hlk := hl k
  refine CJ.seq fun _ hK5 _ => ?_
  refine CJ.seq fun _ hK6 _ => ?_
  refine CJ.region ?_
  refine J.p (PR.move rfl) rfl ?_
  refine J.p (PR.fldA u41 rfl sz39 rfl) rfl ?_
  refine J.p (PR.load rfl (.s (.s (.s (.s (.s .z))))) rfl pl39) rfl ?_
  refine J.p (PR.lenSlice u39 rfl rfl) rfl ?_
  refine J.p (PR.lss rfl rfl) rfl ?_
  refine J.nil ?_
  refine EJ.thenN (hK6 ?_)
  refine CJ.condD rfl (fun hc13 => ?_) (fun hc13 => ?_)
  ·
    refine CJ.skip ?_
    refine EJ.thenN (hK5 ?_)
    refine CJ.seq fun _ hK7 _ => ?_
    refine CJ.block ?_
    refine CJ.openR (Rs := [_, _, _, _, _, _]) 12 [[], [0], [], [2], [], [2, 3, 4], [2, 3, 4, 5], [2, 3, 4, 5, 6], [2, 3, 4, 5, 6, 7], [0, 1, 2, 3, 4, 5, 6, 7, 8], [0, 1, 2, 3, 4, 5, 6, 7, 8, 9], [0, 1, 2, 3, 4, 5, 6, 7, 8, 9, 10]] [[], [12], [], [17], [], [], [], [], [], [8], [], []] [[], [], [], [], [], [], [], [], [], [14], [], [12]] rfl rfl (by kernel_rfl) ?_
    apply GJ.st0 1 rfl
    · intro gh; conv => lhs; simp only [slotsZ, zlAt, vs0, resL, at2, eq_self, Nat.reduceEqDiff, reduceIte, Nat.reduceSub, Nat.reduceAdd, List.cons_append, List.nil_append]
      all_goals rfl
    · intro gh X; conv => lhs; simp only [slotsZ, zlAt, vs0, resL, at2, eq_self, Nat.reduceEqDiff, reduceIte, Nat.reduceSub, Nat.reduceAdd, List.cons_append, List.nil_append]
      all_goals rfl
    · intro gh X; conv => lhs; simp only [slotsZ, zlAt, vs0, resL, at2, eq_self, Nat.reduceEqDiff, reduceIte, Nat.reduceSub, Nat.reduceAdd, List.cons_append, List.nil_append]
      all_goals rfl
    ·
      intro gh X K zq zc zq2 zc2 zb zv hK
      refine J.p (PR.fldA u41 rfl sz39 rfl) rfl ?_
      refine J.nilK ?_
      exact hK zq zc zq2 zc2 zb zv
    ·
      intro gh gh' h
      rfl
    apply GJ.st0 2 rfl
    · intro gh; conv => lhs; simp only [slotsZ, zlAt, vs0, resL, at2, eq_self, Nat.reduceEqDiff, reduceIte, Nat.reduceSub, Nat.reduceAdd, List.cons_append, List.nil_append]
      all_goals rfl
    · intro gh X; conv => lhs; simp only [slotsZ, zlAt, vs0, resL, at2, eq_self, Nat.reduceEqDiff, reduceIte, Nat.reduceSub, Nat.reduceAdd, List.cons_append, List.nil_append]
      all_goals rfl
    · intro gh X; conv => lhs; simp only [slotsZ, zlAt, vs0, resL, at2, eq_self, Nat.reduceEqDiff, reduceIte, Nat.reduceSub, Nat.reduceAdd, List.cons_append, List.nil_append]
      all_goals rfl
    ·
      intro gh X K zq zc zq2 zc2 zb zv hK
      refine J.p (PR.load rfl At.z rfl pl39) rfl ?_
      refine J.nilK ?_
      exact hK zq zc zq2 zc2 zb zv
    ·
      intro gh gh' h
      rfl
    apply GJ.st0 3 rfl
    · intro gh; conv => lhs; simp only [slotsZ, zlAt, vs0, resL, at2, eq_self, Nat.reduceEqDiff, reduceIte, Nat.reduceSub, Nat.reduceAdd, List.cons_append, List.nil_append]
      all_goals rfl
    · intro gh X; conv => lhs; simp only [slotsZ, zlAt, vs0, resL, at2, eq_self, Nat.reduceEqDiff, reduceIte, Nat.reduceSub, Nat.reduceAdd, List.cons_append, List.nil_append]
      all_goals rfl
    · intro gh X; conv => lhs; simp only [slotsZ, zlAt, vs0, resL, at2, eq_self, Nat.reduceEqDiff, reduceIte, Nat.reduceSub, Nat.reduceAdd, List.cons_append, List.nil_append]
      all_goals rfl
    ·
      intro gh X K zq zc zq2 zc2 zb zv hK
      refine J.p (PR.fldA u41 rfl sz39 rfl) rfl ?_
      refine J.nilK ?_
      exact hK zq zc zq2 zc2 zb zv
    ·
      intro gh gh' h
      rfl
    apply GJ.st0 4 rfl
    · intro gh; conv => lhs; simp only [slotsZ, zlAt, vs0, resL, at2, eq_self, Nat.reduceEqDiff, reduceIte, Nat.reduceSub, Nat.reduceAdd, List.cons_append, List.nil_append]
      all_goals rfl
    · intro gh X; conv => lhs; simp only [slotsZ, zlAt, vs0, resL, at2, eq_self, Nat.reduceEqDiff, reduceIte, Nat.reduceSub, Nat.reduceAdd, List.cons_append, List.nil_append]
      all_goals rfl
    · intro gh X; conv => lhs; simp only [slotsZ, zlAt, vs0, resL, at2, eq_self, Nat.reduceEqDiff, reduceIte, Nat.reduceSub, Nat.reduceAdd, List.cons_append, List.nil_append]
      all_goals rfl
    ·
      intro gh X K zq zc zq2 zc2 zb zv hK
      refine J.p (PR.load rfl At.z rfl pl39) rfl ?_
      refine J.nilK ?_
      exact hK zq zc zq2 zc2 zb zv
    ·
      intro gh gh' h
      rfl
    apply GJ.st0 5 rfl
    · intro gh; conv => lhs; simp only [slotsZ, zlAt, vs0, resL, at2, eq_self, Nat.reduceEqDiff, reduceIte, Nat.reduceSub, Nat.reduceAdd, List.cons_append, List.nil_append]
      all_goals rfl
    · intro gh X; conv => lhs; simp only [slotsZ, zlAt, vs0, resL, at2, eq_self, Nat.reduceEqDiff, reduceIte, Nat.reduceSub, Nat.reduceAdd, List.cons_append, List.nil_append]
      all_goals rfl
    · intro gh X; conv => lhs; simp only [slotsZ, zlAt, vs0, resL, at2, eq_self, Nat.reduceEqDiff, reduceIte, Nat.reduceSub, Nat.reduceAdd, List.cons_append, List.nil_append]
      all_goals rfl
    ·
      intro gh X K zq zc zq2 zc2 zb zv hK
      refine J.p (PR.move rfl) rfl ?_
      refine J.nilK ?_
      exact hK zq zc zq2 zc2 zb zv
    ·
      intro gh gh' h
      rfl
    apply GJ.st0 6 rfl
    · intro gh; conv => lhs; simp only [slotsZ, zlAt, vs0, resL, at2, eq_self, Nat.reduceEqDiff, reduceIte, Nat.reduceSub, Nat.reduceAdd, List.cons_append, List.nil_append]
      all_goals rfl
    · intro gh X; conv => lhs; simp only [slotsZ, zlAt, vs0, resL, at2, eq_self, Nat.reduceEqDiff, reduceIte, Nat.reduceSub, Nat.reduceAdd, List.cons_append, List.nil_append]
      all_goals rfl
    · intro gh X; conv => lhs; simp only [slotsZ, zlAt, vs0, resL, at2, eq_self, Nat.reduceEqDiff, reduceIte, Nat.reduceSub, Nat.reduceAdd, List.cons_append, List.nil_append]
      all_goals rfl
    ·
      intro gh X K zq zc zq2 zc2 zb zv hK
      refine J.p (PR.idx1 u39 sz29 rfl rfl rfl (by omega) haf.sm) rfl ?_
      refine J.nilK ?_
      exact hK zq zc zq2 zc2 zb zv
    ·
      intro gh gh' h
      rfl
    obtain ⟨qe22, ce22, he22, le22, Fe22⟩ := haf k (by omega)
    apply GJ.st0 7 rfl
    · intro gh; conv => lhs; simp only [slotsZ, zlAt, vs0, resL, at2, eq_self, Nat.reduceEqDiff, reduceIte, Nat.reduceSub, Nat.reduceAdd, List.cons_append, List.nil_append]
      all_goals rfl
    · intro gh X; conv => lhs; simp only [slotsZ, zlAt, vs0, resL, at2, eq_self, Nat.reduceEqDiff, reduceIte, Nat.reduceSub, Nat.reduceAdd, List.cons_append, List.nil_append]
      all_goals rfl
    · intro gh X; conv => lhs; simp only [slotsZ, zlAt, vs0, resL, at2, eq_self, Nat.reduceEqDiff, reduceIte, Nat.reduceSub, Nat.reduceAdd, List.cons_append, List.nil_append]
      all_goals rfl
    ·
      intro gh X K zq zc zq2 zc2 zb zv hK
      refine J.p (PR.loadHagg (cs := [_]) rfl (one_cell he22) (haf.sm (i := k) (by omega)) ag29) rfl ?_
      refine J.nilK ?_
      exact hK zq zc zq2 zc2 zb zv
    ·
      intro gh gh' h
      rfl
    apply GJ.st1 8 rfl
    · intro gh; conv => lhs; simp only [slotsZ, zlAt, vs0, resL, at2, eq_self, Nat.reduceEqDiff, reduceIte, Nat.reduceSub, Nat.reduceAdd, List.cons_append, List.nil_append]
      all_goals rfl
    · intro gh X; conv => lhs; simp only [slotsZ, zlAt, vs0, resL, at2, eq_self, Nat.reduceEqDiff, reduceIte, Nat.reduceSub, Nat.reduceAdd, List.cons_append, List.nil_append]
      all_goals rfl
    · intro gh X; conv => lhs; simp only [slotsZ, zlAt, vs0, resL, at2, eq_self, Nat.reduceEqDiff, reduceIte, Nat.reduceSub, Nat.reduceAdd, List.cons_append, List.nil_append]
      all_goals rfl
    ·
      intro gh X K zq zc zq2 zc2 zb zv hK
      refine J.call fn116 rfl rfl fun w hH => (l02Copy_0 Fe22 (hlk (by omega)) hH).mono ?_
      rintro _ w ⟨qo23, co23, rfl, hH⟩
      refine ⟨_, rfl, fun a hF => J.of hF hH ?_⟩
      refine J.nilK ?_
      exact hK qo23 co23 zq2 zc2 zb zv
    ·
      intro gh gh' h
      refine ⟨?_, ?_⟩ <;> rfl
    apply GJ.st1 9 rfl
    · intro gh; conv => lhs; simp only [slotsZ, zlAt, vs0, resL, at2, eq_self, Nat.reduceEqDiff, reduceIte, Nat.reduceSub, Nat.reduceAdd, List.cons_append, List.nil_append]
      all_goals rfl
    · intro gh X; conv => lhs; simp only [slotsZ, zlAt, vs0, resL, at2, eq_self, Nat.reduceEqDiff, reduceIte, Nat.reduceSub, Nat.reduceAdd, List.cons_append, List.nil_append]
      all_goals rfl
    · intro gh X; conv => lhs; simp only [slotsZ, zlAt, vs0, resL, at2, eq_self, Nat.reduceEqDiff, reduceIte, Nat.reduceSub, Nat.reduceAdd, List.cons_append, List.nil_append]
      all_goals rfl
    ·
      intro gh X K zq zc zq2 zc2 zb zv hK
      refine J.mk (MK.lit1S u39 ze29 sz29 rfl rfl) rfl fun qo24 co24 => ?_
      refine J.nilK ?_
      exact hK qo24 co24 zq2 zc2 zb zv
    ·
      intro gh gh' h
      refine ⟨?_, ?_⟩ <;> (first | simp only [h 7 rfl] | rfl)
    apply GJ.st1 10 rfl
    · intro gh; conv => lhs; simp only [slotsZ, zlAt, vs0, resL, at2, eq_self, Nat.reduceEqDiff, reduceIte, Nat.reduceSub, Nat.reduceAdd, List.cons_append, List.nil_append]
      all_goals rfl
    · intro gh X; conv => lhs; simp only [slotsZ, zlAt, vs0, resL, at2, eq_self, Nat.reduceEqDiff, reduceIte, Nat.reduceSub, Nat.reduceAdd, List.cons_append, List.nil_append]
      all_goals rfl
    · intro gh X; conv => lhs; simp only [slotsZ, zlAt, vs0, resL, at2, eq_self, Nat.reduceEqDiff, reduceIte, Nat.reduceSub, Nat.reduceAdd, List.cons_append, List.nil_append]
      all_goals rfl
    ·
      intro gh X K zq zc zq2 zc2 zb zv hK
      refine J.append1 u39 ze29 sz29 by29 rfl rfl rfl rfl (by omega) (.s .z) At.z (fun _ _ => At.z) rfl fun qo25 co25 => ?_
      refine EJ.front .z ?_
      refine EJ.front (.s .z) ?_
      refine J.nilK ?_
      exact hK qo25 co25 zq2 zc2 zb zv
    ·
      intro gh gh' h
      refine ⟨?_, ?_⟩ <;> (first | simp only [h 7 rfl, h 8 rfl] | rfl)
    apply GJ.st0 11 rfl
    · intro gh; conv => lhs; simp only [slotsZ, zlAt, vs0, resL, at2, eq_self, Nat.reduceEqDiff, reduceIte, Nat.reduceSub, Nat.reduceAdd, List.cons_append, List.nil_append]
      all_goals rfl
    · intro gh X; conv => lhs; simp only [slotsZ, zlAt, vs0, resL, at2, eq_self, Nat.reduceEqDiff, reduceIte, Nat.reduceSub, Nat.reduceAdd, List.cons_append, List.nil_append]
      all_goals rfl
    · intro gh X; conv => lhs; simp only [slotsZ, zlAt, vs0, resL, at2, eq_self, Nat.reduceEqDiff, reduceIte, Nat.reduceSub, Nat.reduceAdd, List.cons_append, List.nil_append]
      all_goals rfl
    ·
      intro gh X K zq zc zq2 zc2 zb zv hK
      refine J.p (PR.fldA u41 rfl sz39 rfl) rfl ?_
      refine J.nilK ?_
      exact hK zq zc zq2 zc2 zb zv
    ·
      intro gh gh' h
      first | simp only [h 7 rfl, h 8 rfl, h 9 rfl] | rfl
    apply GJ.sn1 12 rfl
    · intro gh; conv => lhs; simp only [slotsZ, zlAt, vs0, resL, at2, eq_self, Nat.reduceEqDiff, reduceIte, Nat.reduceSub, Nat.reduceAdd, List.cons_append, List.nil_append]
      all_goals rfl
    · intro gh X; conv => lhs; simp only [slotsZ, zlAt, vs0, resL, at2, eq_self, Nat.reduceEqDiff, reduceIte, Nat.reduceSub, Nat.reduceAdd, List.cons_append, List.nil_append]
      all_goals rfl
    · intro gh X; conv => lhs; simp only [slotsZ, zlAt, vs0, resL, at2, eq_self, Nat.reduceEqDiff, reduceIte, Nat.reduceSub, Nat.reduceAdd, List.cons_append, List.nil_append]
      all_goals rfl
    ·
      intro gh X K hK
      refine J.store rfl rfl rfl rfl sz39 (by simp [*]) At.z ?_
      refine J.nilK ?_
      exact hK
    ·
      intro gh gh' h
      first | simp only [h 7 rfl, h 8 rfl, h 9 rfl] | rfl
    apply GJ.close [0, 1, 2, 3, 4, 5, 6, 7, 8, 9, 10, 11] [0, 1, 2, 3, 4, 5, 6, 7, 8, 9, 10, 11, 13, 15, 16, 17] foll0 rfl rfl rfl (by rfl)
    · intro gh; conv => lhs; simp only [slotsZ, zlAt, vs0, resL, at2, eq_self, Nat.reduceEqDiff, reduceIte, Nat.reduceSub, Nat.reduceAdd, List.cons_append, List.nil_append]
      all_goals rfl
    · intro gh; conv => lhs; simp only [slotsZ, zlAt, vs0, resL, at2, eq_self, Nat.reduceEqDiff, reduceIte, Nat.reduceSub, Nat.reduceAdd, List.cons_append, List.nil_append]
      all_goals rfl
    intro gh
    generalize (gh 7).c = co23
    generalize (gh 7).q = qo23
    generalize (gh 8).c = co24
    generalize (gh 8).q = qo24
    generalize (gh 9).c = co25
    generalize (gh 9).q = qo25
    clear gh
    refine EJ.inN ?_
    refine EJ.thenN (hK7 ?_)
    refine CJ.region ?_
    refine J.p (PR.move rfl) rfl ?_
    refine J.p (PR.add rfl rfl (by first | exact nw _ (by omega) | rfl)) rfl ?_
    refine J.p (PR.assign rfl) rfl ?_
    refine J.nil ?_
    refine EJ.thenN ?_
    refine EJ.front (.s (.s (.s (.s (.s (.s (.s .z))))))) ?_
    refine EJ.front (.s (.s (.s (.s (.s (.s (.s .z))))))) ?_
    refine EJ.front (.s (.s (.s (.s (.s (.s (.s .z))))))) ?_
    refine EJ.front (.s (.s (.s (.s (.s (.s .z)))))) ?_
    refine EJ.front (.s (.s (.s (.s (.s (.s .z)))))) ?_
    refine EJ.front (.s (.s (.s (.s (.s (.s .z)))))) ?_
    refine EJ.front (.s (.s (.s (.s (.s (.s (.s .z))))))) ?_
    refine EJ.front (.s (.s (.s (.s (.s (.s (.s .z))))))) ?_
    refine EJ.fsSnoc (fs := af.take k) (List.length_take_of_le (by omega)) rfl ?_
    refine EJ.drop (.s .z) ?_
    refine EJ.front (.s (.s (.s (.s (.s .z))))) ?_
    refine EJ.front (.s (.s (.s (.s (.s .z))))) ?_
    refine EJ.front (.s (.s (.s (.s (.s .z))))) ?_
    refine EJ.front (.s (.s (.s (.s .z)))) ?_
    refine EJ.front (.s (.s (.s (.s .z)))) ?_
    refine EJ.front (.s (.s (.s (.s (.s .z))))) ?_
    exact hAg0 (qo25, co25, setV vs k (qo23, co23), k + 1) (by show k + 1 ≤ af.length; omega) (by show af.length - (k + 1) < af.length - k; omega) 20 rfl rfl ⟨rfl, trivial⟩ rfl (by dsimp only; rw [take_fm (by omega), slicesC_set (List.length_take_of_le (by omega))]; rfl)
  ·
    refine CJ.exit ?_
    refine EJ.thenE ?_
    refine EJ.thenE ?_
    refine EJ.inE ?_
    refine EJ.thenN (hK3 ?_)
    refine CJ.seq fun _ hK8 _ => ?_
    refine CJ.region ?_
    refine J.p (PR.loadAll rfl At.z (by simpa [*] using ag41)) rfl ?_
    refine J.storeAll rfl rfl (by first | exact bytesC_one _ | exact intsC_one _ | exact Term.c_one _ | simp [Value.oneCell']) (by simpa [*] using sz41) (by simp [*]) (.s (.s (.s (.s .z)))) ?_
    refine J.nil ?_
    refine EJ.thenN (hK8 ?_)
    refine CJ.ret ?_
    refine EJ.ret1 rfl (Res.agg rfl (.s (.s (.s (.s .z)))) (by simpa [*] using ag41)) fun w hH => ?_
    replace hH := hH.sublist (.cons _ (.cons_cons _ (.cons_cons _ (.cons_cons _ (.cons _ (.cons _ (List.Sublist.refl _)))))))
    obtain rfl : k = af.length := by omega
    rw [List.take_length] at hH
    exact ⟨_, _, q, c, vs, rfl, by unfold ownFs; exact ((hH.front (.s .z)).star.front (.s .z))⟩
theorem tk_ints {xs : List Int} {i : Nat} (hi : i < xs.length) (ys : List Int) : ys ++ xs.take (i + 1) = ys ++ xs.take i ++ [xs.getD i 0] := by
  rw [List.take_succ_eq_append_getElem hi, List.append_assoc]
  congr 3
  rw [List.getD_eq_getElem?_getD, List.getElem?_eq_getElem hi]
  rfl
theorem cp_snoc {n i : Nat} {fs gs : List (List Term)} (hi : i < gs.length) : fs ++ cpK n gs (i + 1) = fs ++ cpK n gs i ++ [shF n (fm gs i)] := by rw [cpK_succ hi, List.append_assoc]
theorem cp_len {n i : Nat} {fs gs : List (List Term)} (hi : i ≤ gs.length) : (fs ++ cpK n gs i).length = fs.length + i := by rw [List.length_append, cpK_len hi]
set_option maxHeartbeats 4000000 in
set_option maxRecDepth 10000 in
theorem l02Product_c {B : World} {H0 H : HP} {L : List SA} {w : World} {qad qaf : Option Addr} {cad caf : Nat} {ad : List Int} {af : List (List Term)} {qbd qbf : Option Addr} {cbd cbf : Nat} {bd : List Int} {bf : List (List Term)}  (had : Ints H qad ad) (haf : Forms H qaf af) (hbd : Ints H qbd bd) (hbf : Forms H qbf bf) (hn : ad.length ≤ 1048576 ∧ af.length ≤ 1048576) (hl : ∀ i, i < af.length → (fm af i).length ≤ 1048576) (bn : bd.length ≤ 1048576 ∧ bf.length ≤ 1048576) (bl : ∀ i, i < bf.length → (fm bf i).length ≤ 1048576) (hs : ad.length + bd.length ≤ 8) (hbl : bf.length = bd.length) (hal : af.length = ad.length) (hH : Hp B H0 H L w) :
    Calls Try.prog 122 [.agg [.slice qad ad.length cad, .slice qaf af.length caf].toArray, .agg [.slice qbd bd.length cbd, .slice qbf bf.length cbf].toArray].toArray w fun e w' => ∃ qd cd qf cf vs, e = .returned (.agg [.slice qd (ad ++ bd).length cd, .slice qf (af ++ cpA ad.length bf).length cf].toArray) ∧ Hp B H0 H (own 2 1 qd (ad ++ bd).length cd (intsC (ad ++ bd)) :: ownFs 29 88 qf cf vs (af ++ cpA ad.length bf) :: L) w' := by
  refine CJ.enter Try.func122 rfl 41 rfl rfl [(0, .agg [.slice qad ad.length cad, .slice qaf af.length caf].toArray), (1, .agg [.slice qbd bd.length cbd, .slice qbf bf.length cbf].toArray)] rfl hH ?_
  clear hH
  refine CJ.seq fun _ hK1 _ => ?_
  refine CJ.region ?_
  refine J.box rfl rfl rfl fun g2 => ?_
  refine J.box rfl rfl rfl fun g3 => ?_
  refine J.alloc ze41 rfl fun g4 => ?_
  refine J.nil ?_
  refine EJ.thenN (hK1 ?_)
  refine CJ.seq fun _ hK2 _ => ?_
  refine CJ.region ?_
  refine J.p (PR.loadAll rfl (.s (.s .z)) (by simpa [*] using ag41)) rfl ?_
  refine J.call fn159 rfl rfl fun w hH => (l02Own_c had haf (by omega) hl hH).mono ?_
  rintro _ w ⟨qdo8, cdo8, qfo8, cfo8, vso8, rfl, hH⟩
  refine ⟨_, rfl, fun a hF => J.of hF hH ?_⟩
  refine J.alloc ze41 rfl fun g5 => ?_
  refine J.unFs (.s (.s .z)) ?_
  refine J.storeAll rfl rfl (by first | exact bytesC_one _ | exact intsC_one _ | exact Term.c_one _ | simp [Value.oneCell']) (by simpa [*] using sz41) (by simp [*]) (.s (.s .z)) ?_
  refine J.nil ?_
  refine EJ.thenN (hK2 ?_)
  refine CJ.seq fun _ hK3 _ => ?_
  refine CJ.seq fun _ hK4 _ => ?_
  refine CJ.region ?_
  refine J.p (PR.assign rfl) rfl ?_
  refine J.nil ?_
  refine EJ.thenN (hK4 ?_)
  refine CJ.block ?_
  refine CJ.loopU (σ := Option Addr × Nat × Option Addr × Nat × Vs × Nat) (fun ⟨qd, cd, q, c, vs, i⟩ => [(6, .int .i64 (i : Int))]) (fun ⟨qd, cd, q, c, vs, i⟩ => H) (fun ⟨qd, cd, q, c, vs, i⟩ => ownTs 88 vs (af ++ cpK ad.length bf i) :: own 29 1 q (af.length + i) c (slicesC vs (af ++ cpK ad.length bf i)) :: obj g5 (.cells [.slice qd (ad ++ bd.take i).length cd, .slice q (af.length + i) c].toArray 41 (0, 0)) :: own 2 1 qd (ad ++ bd.take i).length cd (intsC (ad ++ bd.take i)) :: obj g4 (.cells [.slice none 0 0, .slice none 0 0].toArray 41 (0, 0)) :: obj g3 (.cells [.slice qbd bd.length cbd, .slice qbf bf.length cbf].toArray 41 (0, 0)) :: obj g2 (.cells [.slice qad ad.length cad, .slice qaf af.length caf].toArray 41 (0, 0)) :: L) (fun ⟨qd, cd, q, c, vs, i⟩ => i ≤ bd.length) (fun ⟨qd, cd, q, c, vs, i⟩ => bd.length - i) (qdo8, cdo8, qfo8, cfo8, vso8, 0) (by show 0 ≤ bd.length; omega) ⟨rfl, trivial⟩ rfl (by simp [cpK]) ?_
  rintro ⟨qd, cd, q, c, vs, i⟩ hi _ hAg0
  have blk := bl i
  have hdl : (ad ++ bd.take i).length = ad.length + i := by rw [List.length_append, List.length_take_of_le hi]
  refine CJ.seq fun _ hK5 _ => ?_
  refine CJ.seq fun _ hK6 _ => ?_
  refine CJ.region ?_
  refine J.p (PR.move rfl) rfl ?_
  refine J.p (PR.fldA u41 rfl sz22 rfl) rfl ?_
  refine J.p (PR.load rfl (.s (.s (.s (.s (.s .z))))) rfl pl22) rfl ?_
  refine J.p (PR.lenSlice u22 rfl rfl) rfl ?_
  refine J.p (PR.lss rfl rfl) rfl ?_
  refine J.nil ?_
  refine EJ.thenN (hK6 ?_)
  refine CJ.condD rfl (fun hc13 => ?_) (fun hc13 => ?_)
  ·
    refine CJ.skip ?_
    refine EJ.thenN (hK5 ?_)
    refine CJ.seq fun _ hK7 _ => ?_
    refine CJ.block ?_
    refine CJ.seq fun _ hK8 _ => ?_
    refine CJ.openR (Rs := [_, _, _, _, _, _, _]) 11 [[], [0], [], [2], [], [2, 3, 4], [2, 3, 4, 5], [2, 3, 4, 5, 6], [0, 1, 2, 3, 4, 5, 6, 7], [0, 1, 2, 3, 4, 5, 6, 7, 8], [0, 1, 2, 3, 4, 5, 6, 7, 8, 9]] [[], [13], [], [16], [], [], [], [], [7], [], []] [[], [], [], [], [], [], [], [], [14], [], [13]] rfl rfl (by kernel_rfl) ?_
    apply GJ.st0 1 rfl
    · intro gh; conv => lhs; simp only [slotsZ, zlAt, vs0, resL, at2, eq_self, Nat.reduceEqDiff, reduceIte, Nat.reduceSub, Nat.reduceAdd, List.cons_append, List.nil_append]
      all_goals rfl
    · intro gh X; conv => lhs; simp only [slotsZ, zlAt, vs0, resL, at2, eq_self, Nat.reduceEqDiff, reduceIte, Nat.reduceSub, Nat.reduceAdd, List.cons_append, List.nil_append]
      all_goals rfl
    · intro gh X; conv => lhs; simp only [slotsZ, zlAt, vs0, resL, at2, eq_self, Nat.reduceEqDiff, reduceIte, Nat.reduceSub, Nat.reduceAdd, List.cons_append, List.nil_append]
      all_goals rfl
    ·
      intro gh X K zq zc zq2 zc2 zb zv hK
      refine J.p (PR.fldA u41 rfl sz22 rfl) rfl ?_
      refine J.nilK ?_
      exact hK zq zc zq2 zc2 zb zv
    ·
      intro gh gh' h
      rfl
    apply GJ.st0 2 rfl
    · intro gh; conv => lhs; simp only [slotsZ, zlAt, vs0, resL, at2, eq_self, Nat.reduceEqDiff, reduceIte, Nat.reduceSub, Nat.reduceAdd, List.cons_append, List.nil_append]
      all_goals rfl
    · intro gh X; conv => lhs; simp only [slotsZ, zlAt, vs0, resL, at2, eq_self, Nat.reduceEqDiff, reduceIte, Nat.reduceSub, Nat.reduceAdd, List.cons_append, List.nil_append]
      all_goals rfl
    · intro gh X; conv => lhs; simp only [slotsZ, zlAt, vs0, resL, at2, eq_self, Nat.reduceEqDiff, reduceIte, Nat.reduceSub, Nat.reduceAdd, List.cons_append, List.nil_append]
      all_goals rfl
    ·
      intro gh X K zq zc zq2 zc2 zb zv hK
      refine J.p (PR.load rfl At.z rfl pl22) rfl ?_
      refine J.nilK ?_
      exact hK zq zc zq2 zc2 zb zv
    ·
      intro gh gh' h
      rfl
    apply GJ.st0 3 rfl
    · intro gh; conv => lhs; simp only [slotsZ, zlAt, vs0, resL, at2, eq_self, Nat.reduceEqDiff, reduceIte, Nat.reduceSub, Nat.reduceAdd, List.cons_append, List.nil_append]
      all_goals rfl
    · intro gh X; conv => lhs; simp only [slotsZ, zlAt, vs0, resL, at2, eq_self, Nat.reduceEqDiff, reduceIte, Nat.reduceSub, Nat.reduceAdd, List.cons_append, List.nil_append]
      all_goals rfl
    · intro gh X; conv => lhs; simp only [slotsZ, zlAt, vs0, resL, at2, eq_self, Nat.reduceEqDiff, reduceIte, Nat.reduceSub, Nat.reduceAdd, List.cons_append, List.nil_append]
      all_goals rfl
    ·
      intro gh X K zq zc zq2 zc2 zb zv hK
      refine J.p (PR.fldA u41 rfl sz22 rfl) rfl ?_
      refine J.nilK ?_
      exact hK zq zc zq2 zc2 zb zv
    ·
      intro gh gh' h
      rfl
    apply GJ.st0 4 rfl
    · intro gh; conv => lhs; simp only [slotsZ, zlAt, vs0, resL, at2, eq_self, Nat.reduceEqDiff, reduceIte, Nat.reduceSub, Nat.reduceAdd, List.cons_append, List.nil_append]
      all_goals rfl
    · intro gh X; conv => lhs; simp only [slotsZ, zlAt, vs0, resL, at2, eq_self, Nat.reduceEqDiff, reduceIte, Nat.reduceSub, Nat.reduceAdd, List.cons_append, List.nil_append]
      all_goals rfl
    · intro gh X; conv => lhs; simp only [slotsZ, zlAt, vs0, resL, at2, eq_self, Nat.reduceEqDiff, reduceIte, Nat.reduceSub, Nat.reduceAdd, List.cons_append, List.nil_append]
      all_goals rfl
    ·
      intro gh X K zq zc zq2 zc2 zb zv hK
      refine J.p (PR.load rfl At.z rfl pl22) rfl ?_
      refine J.nilK ?_
      exact hK zq zc zq2 zc2 zb zv
    ·
      intro gh gh' h
      rfl
    apply GJ.st0 5 rfl
    · intro gh; conv => lhs; simp only [slotsZ, zlAt, vs0, resL, at2, eq_self, Nat.reduceEqDiff, reduceIte, Nat.reduceSub, Nat.reduceAdd, List.cons_append, List.nil_append]
      all_goals rfl
    · intro gh X; conv => lhs; simp only [slotsZ, zlAt, vs0, resL, at2, eq_self, Nat.reduceEqDiff, reduceIte, Nat.reduceSub, Nat.reduceAdd, List.cons_append, List.nil_append]
      all_goals rfl
    · intro gh X; conv => lhs; simp only [slotsZ, zlAt, vs0, resL, at2, eq_self, Nat.reduceEqDiff, reduceIte, Nat.reduceSub, Nat.reduceAdd, List.cons_append, List.nil_append]
      all_goals rfl
    ·
      intro gh X K zq zc zq2 zc2 zb zv hK
      refine J.p (PR.move rfl) rfl ?_
      refine J.nilK ?_
      exact hK zq zc zq2 zc2 zb zv
    ·
      intro gh gh' h
      rfl
    apply GJ.st0 6 rfl
    · intro gh; conv => lhs; simp only [slotsZ, zlAt, vs0, resL, at2, eq_self, Nat.reduceEqDiff, reduceIte, Nat.reduceSub, Nat.reduceAdd, List.cons_append, List.nil_append]
      all_goals rfl
    · intro gh X; conv => lhs; simp only [slotsZ, zlAt, vs0, resL, at2, eq_self, Nat.reduceEqDiff, reduceIte, Nat.reduceSub, Nat.reduceAdd, List.cons_append, List.nil_append]
      all_goals rfl
    · intro gh X; conv => lhs; simp only [slotsZ, zlAt, vs0, resL, at2, eq_self, Nat.reduceEqDiff, reduceIte, Nat.reduceSub, Nat.reduceAdd, List.cons_append, List.nil_append]
      all_goals rfl
    ·
      intro gh X K zq zc zq2 zc2 zb zv hK
      refine J.p (PR.idx1 u22 sz2 rfl rfl rfl (by omega) hbd.sm) rfl ?_
      refine J.nilK ?_
      exact hK zq zc zq2 zc2 zb zv
    ·
      intro gh gh' h
      rfl
    apply GJ.st0 7 rfl
    · intro gh; conv => lhs; simp only [slotsZ, zlAt, vs0, resL, at2, eq_self, Nat.reduceEqDiff, reduceIte, Nat.reduceSub, Nat.reduceAdd, List.cons_append, List.nil_append]
      all_goals rfl
    · intro gh X; conv => lhs; simp only [slotsZ, zlAt, vs0, resL, at2, eq_self, Nat.reduceEqDiff, reduceIte, Nat.reduceSub, Nat.reduceAdd, List.cons_append, List.nil_append]
      all_goals rfl
    · intro gh X; conv => lhs; simp only [slotsZ, zlAt, vs0, resL, at2, eq_self, Nat.reduceEqDiff, reduceIte, Nat.reduceSub, Nat.reduceAdd, List.cons_append, List.nil_append]
      all_goals rfl
    ·
      intro gh X K zq zc zq2 zc2 zb zv hK
      refine J.p (PR.loadH rfl (hbd _ (by omega)) pl2) rfl ?_
      refine J.nilK ?_
      exact hK zq zc zq2 zc2 zb zv
    ·
      intro gh gh' h
      rfl
    apply GJ.st1 8 rfl
    · intro gh; conv => lhs; simp only [slotsZ, zlAt, vs0, resL, at2, eq_self, Nat.reduceEqDiff, reduceIte, Nat.reduceSub, Nat.reduceAdd, List.cons_append, List.nil_append]
      all_goals rfl
    · intro gh X; conv => lhs; simp only [slotsZ, zlAt, vs0, resL, at2, eq_self, Nat.reduceEqDiff, reduceIte, Nat.reduceSub, Nat.reduceAdd, List.cons_append, List.nil_append]
      all_goals rfl
    · intro gh X; conv => lhs; simp only [slotsZ, zlAt, vs0, resL, at2, eq_self, Nat.reduceEqDiff, reduceIte, Nat.reduceSub, Nat.reduceAdd, List.cons_append, List.nil_append]
      all_goals rfl
    ·
      intro gh X K zq zc zq2 zc2 zb zv hK
      refine J.mk (MK.lit1I u22 ze2 sz2 rfl) rfl fun qo23 co23 => ?_
      refine J.nilK ?_
      exact hK qo23 co23 zq2 zc2 zb zv
    ·
      intro gh gh' h
      refine ⟨?_, ?_⟩ <;> rfl
    apply GJ.st1 9 rfl
    · intro gh; conv => lhs; simp only [slotsZ, zlAt, vs0, resL, at2, eq_self, Nat.reduceEqDiff, reduceIte, Nat.reduceSub, Nat.reduceAdd, List.cons_append, List.nil_append]
      all_goals rfl
    · intro gh X; conv => lhs; simp only [slotsZ, zlAt, vs0, resL, at2, eq_self, Nat.reduceEqDiff, reduceIte, Nat.reduceSub, Nat.reduceAdd, List.cons_append, List.nil_append]
      all_goals rfl
    · intro gh X; conv => lhs; simp only [slotsZ, zlAt, vs0, resL, at2, eq_self, Nat.reduceEqDiff, reduceIte, Nat.reduceSub, Nat.reduceAdd, List.cons_append, List.nil_append]
      all_goals rfl
    ·
      intro gh X K zq zc zq2 zc2 zb zv hK
      refine J.appendOI u22 ze2 sz2 by2 rfl rfl (by simp only [List.length_cons, List.length_nil]; omega) (.s .z) At.z (fun _ _ => At.z) rfl fun qo24 co24 => ?_
      refine EJ.front .z ?_
      refine EJ.front (.s .z) ?_
      refine J.nilK ?_
      exact hK qo24 co24 zq2 zc2 zb zv
    ·
      intro gh gh' h
      refine ⟨?_, ?_⟩ <;> (first | simp only [h 7 rfl] | rfl)
    apply GJ.st0 10 rfl
    · intro gh; conv => lhs; simp only [slotsZ, zlAt, vs0, resL, at2, eq_self, Nat.reduceEqDiff, reduceIte, Nat.reduceSub, Nat.reduceAdd, List.cons_append, List.nil_append]
      all_goals rfl
    · intro gh X; conv => lhs; simp only [slotsZ, zlAt, vs0, resL, at2, eq_self, Nat.reduceEqDiff, reduceIte, Nat.reduceSub, Nat.reduceAdd, List.cons_append, List.nil_append]
      all_goals rfl
    · intro gh X; conv => lhs; simp only [slotsZ, zlAt, vs0, resL, at2, eq_self, Nat.reduceEqDiff, reduceIte, Nat.reduceSub, Nat.reduceAdd, List.cons_append, List.nil_append]
      all_goals rfl
    ·
      intro gh X K zq zc zq2 zc2 zb zv hK
      refine J.p (PR.fldA u41 rfl sz22 rfl) rfl ?_
      refine J.nilK ?_
      exact hK zq zc zq2 zc2 zb zv
    ·
      intro gh gh' h
      first | simp only [h 7 rfl, h 8 rfl] | rfl
    apply GJ.sn1 11 rfl
    · intro gh; conv => lhs; simp only [slotsZ, zlAt, vs0, resL, at2, eq_self, Nat.reduceEqDiff, reduceIte, Nat.reduceSub, Nat.reduceAdd, List.cons_append, List.nil_append]
      all_goals rfl
    · intro gh X; conv => lhs; simp only [slotsZ, zlAt, vs0, resL, at2, eq_self, Nat.reduceEqDiff, reduceIte, Nat.reduceSub, Nat.reduceAdd, List.cons_append, List.nil_append]
      all_goals rfl
    · intro gh X; conv => lhs; simp only [slotsZ, zlAt, vs0, resL, at2, eq_self, Nat.reduceEqDiff, reduceIte, Nat.reduceSub, Nat.reduceAdd, List.cons_append, List.nil_append]
      all_goals rfl
    ·
      intro gh X K hK
      refine J.store rfl rfl rfl rfl sz22 (by simp [*]) At.z ?_
      refine J.nilK ?_
      exact hK
    ·
      intro gh gh' h
      first | simp only [h 7 rfl, h 8 rfl] | rfl
    apply GJ.close [0, 1, 2, 3, 4, 5, 6, 7, 8, 9, 10] [0, 1, 2, 3, 4, 5, 6, 7, 8, 9, 10, 11, 12, 15, 16, 17] foll0 rfl rfl rfl (by rfl)
    · intro gh; conv => lhs; simp only [slotsZ, zlAt, vs0, resL, at2, eq_self, Nat.reduceEqDiff, reduceIte, Nat.reduceSub, Nat.reduceAdd, List.cons_append, List.nil_append]
      all_goals rfl
    · intro gh; conv => lhs; simp only [slotsZ, zlAt, vs0, resL, at2, eq_self, Nat.reduceEqDiff, reduceIte, Nat.reduceSub, Nat.reduceAdd, List.cons_append, List.nil_append]
      all_goals rfl
    intro gh
    generalize (gh 7).c = co23
    generalize (gh 7).q = qo23
    generalize (gh 8).c = co24
    generalize (gh 8).q = qo24
    clear gh
    refine EJ.thenN (hK8 ?_)
    refine CJ.openR (Rs := [_, _, _, _, _, _, _, _]) 15 [[], [0], [], [2], [], [2, 3, 4], [2, 3, 4, 5], [], [7], [7, 8], [2, 3, 4, 5, 6, 7, 8, 9], [2, 3, 4, 5, 6, 7, 8, 9, 10], [0, 1, 2, 3, 4, 5, 6, 7, 8, 9, 10, 11], [0, 1, 2, 3, 4, 5, 6, 7, 8, 9, 10, 11, 12], [0, 1, 2, 3, 4, 5, 6, 7, 8, 9, 10, 11, 12, 13]] [[], [17], [], [21], [], [], [], [], [22], [], [], [], [11], [], []] [[], [], [], [], [], [], [], [], [], [], [], [], [19], [], [17]] rfl rfl (by kernel_rfl) ?_
    apply GJ.st0 1 rfl
    · intro gh; conv => lhs; simp only [slotsZ, zlAt, vs0, resL, at2, eq_self, Nat.reduceEqDiff, reduceIte, Nat.reduceSub, Nat.reduceAdd, List.cons_append, List.nil_append]
      all_goals rfl
    · intro gh X; conv => lhs; simp only [slotsZ, zlAt, vs0, resL, at2, eq_self, Nat.reduceEqDiff, reduceIte, Nat.reduceSub, Nat.reduceAdd, List.cons_append, List.nil_append]
      all_goals rfl
    · intro gh X; conv => lhs; simp only [slotsZ, zlAt, vs0, resL, at2, eq_self, Nat.reduceEqDiff, reduceIte, Nat.reduceSub, Nat.reduceAdd, List.cons_append, List.nil_append]
      all_goals rfl
    ·
      intro gh X K zq zc zq2 zc2 zb zv hK
      refine J.p (PR.fldA u41 rfl sz39 rfl) rfl ?_
      refine J.nilK ?_
      exact hK zq zc zq2 zc2 zb zv
    ·
      intro gh gh' h
      rfl
    apply GJ.st0 2 rfl
    · intro gh; conv => lhs; simp only [slotsZ, zlAt, vs0, resL, at2, eq_self, Nat.reduceEqDiff, reduceIte, Nat.reduceSub, Nat.reduceAdd, List.cons_append, List.nil_append]
      all_goals rfl
    · intro gh X; conv => lhs; simp only [slotsZ, zlAt, vs0, resL, at2, eq_self, Nat.reduceEqDiff, reduceIte, Nat.reduceSub, Nat.reduceAdd, List.cons_append, List.nil_append]
      all_goals rfl
    · intro gh X; conv => lhs; simp only [slotsZ, zlAt, vs0, resL, at2, eq_self, Nat.reduceEqDiff, reduceIte, Nat.reduceSub, Nat.reduceAdd, List.cons_append, List.nil_append]
      all_goals rfl
    ·
      intro gh X K zq zc zq2 zc2 zb zv hK
      refine J.p (PR.load rfl At.z rfl pl39) rfl ?_
      refine J.nilK ?_
      exact hK zq zc zq2 zc2 zb zv
    ·
      intro gh gh' h
      rfl
    apply GJ.st0 3 rfl
    · intro gh; conv => lhs; simp only [slotsZ, zlAt, vs0, resL, at2, eq_self, Nat.reduceEqDiff, reduceIte, Nat.reduceSub, Nat.reduceAdd, List.cons_append, List.nil_append]
      all_goals rfl
    · intro gh X; conv => lhs; simp only [slotsZ, zlAt, vs0, resL, at2, eq_self, Nat.reduceEqDiff, reduceIte, Nat.reduceSub, Nat.reduceAdd, List.cons_append, List.nil_append]
      all_goals rfl
    · intro gh X; conv => lhs; simp only [slotsZ, zlAt, vs0, resL, at2, eq_self, Nat.reduceEqDiff, reduceIte, Nat.reduceSub, Nat.reduceAdd, List.cons_append, List.nil_append]
      all_goals rfl
    ·
      intro gh X K zq zc zq2 zc2 zb zv hK
      refine J.p (PR.fldA u41 rfl sz39 rfl) rfl ?_
      refine J.nilK ?_
      exact hK zq zc zq2 zc2 zb zv
    ·
      intro gh gh' h
      rfl
    apply GJ.st0 4 rfl
    · intro gh; conv => lhs; simp only [slotsZ, zlAt, vs0, resL, at2, eq_self, Nat.reduceEqDiff, reduceIte, Nat.reduceSub, Nat.reduceAdd, List.cons_append, List.nil_append]
      all_goals rfl
    · intro gh X; conv => lhs; simp only [slotsZ, zlAt, vs0, resL, at2, eq_self, Nat.reduceEqDiff, reduceIte, Nat.reduceSub, Nat.reduceAdd, List.cons_append, List.nil_append]
      all_goals rfl
    · intro gh X; conv => lhs; simp only [slotsZ, zlAt, vs0, resL, at2, eq_self, Nat.reduceEqDiff, reduceIte, Nat.reduceSub, Nat.reduceAdd, List.cons_append, List.nil_append]
      all_goals rfl
    ·
      intro gh X K zq zc zq2 zc2 zb zv hK
      refine J.p (PR.load rfl At.z rfl pl39) rfl ?_
      refine J.nilK ?_
      exact hK zq zc zq2 zc2 zb zv
    ·
      intro gh gh' h
      rfl
    apply GJ.st0 5 rfl
    · intro gh; conv => lhs; simp only [slotsZ, zlAt, vs0, resL, at2, eq_self, Nat.reduceEqDiff, reduceIte, Nat.reduceSub, Nat.reduceAdd, List.cons_append, List.nil_append]
      all_goals rfl
    · intro gh X; conv => lhs; simp only [slotsZ, zlAt, vs0, resL, at2, eq_self, Nat.reduceEqDiff, reduceIte, Nat.reduceSub, Nat.reduceAdd, List.cons_append, List.nil_append]
      all_goals rfl
    · intro gh X; conv => lhs; simp only [slotsZ, zlAt, vs0, resL, at2, eq_self, Nat.reduceEqDiff, reduceIte, Nat.reduceSub, Nat.reduceAdd, List.cons_append, List.nil_append]
      all_goals rfl
    ·
      intro gh X K zq zc zq2 zc2 zb zv hK
      refine J.p (PR.move rfl) rfl ?_
      refine J.nilK ?_
      exact hK zq zc zq2 zc2 zb zv
    ·
      intro gh gh' h
      rfl
    apply GJ.st0 6 rfl
    · intro gh; conv => lhs; simp only [slotsZ, zlAt, vs0, resL, at2, eq_self, Nat.reduceEqDiff, reduceIte, Nat.reduceSub, Nat.reduceAdd, List.cons_append, List.nil_append]
      all_goals rfl
    · intro gh X; conv => lhs; simp only [slotsZ, zlAt, vs0, resL, at2, eq_self, Nat.reduceEqDiff, reduceIte, Nat.reduceSub, Nat.reduceAdd, List.cons_append, List.nil_append]
      all_goals rfl
    · intro gh X; conv => lhs; simp only [slotsZ, zlAt, vs0, resL, at2, eq_self, Nat.reduceEqDiff, reduceIte, Nat.reduceSub, Nat.reduceAdd, List.cons_append, List.nil_append]
      all_goals rfl
    ·
      intro gh X K zq zc zq2 zc2 zb zv hK
      refine J.p (PR.idx1 u39 sz29 rfl rfl rfl (by omega) hbf.sm) rfl ?_
      refine J.nilK ?_
      exact hK zq zc zq2 zc2 zb zv
    ·
      intro gh gh' h
      rfl
    obtain ⟨qe32, ce32, he32, le32, Fe32⟩ := hbf i (by omega)
    apply GJ.st0 7 rfl
    · intro gh; conv => lhs; simp only [slotsZ, zlAt, vs0, resL, at2, eq_self, Nat.reduceEqDiff, reduceIte, Nat.reduceSub, Nat.reduceAdd, List.cons_append, List.nil_append]
      all_goals rfl
    · intro gh X; conv => lhs; simp only [slotsZ, zlAt, vs0, resL, at2, eq_self, Nat.reduceEqDiff, reduceIte, Nat.reduceSub, Nat.reduceAdd, List.cons_append, List.nil_append]
      all_goals rfl
    · intro gh X; conv => lhs; simp only [slotsZ, zlAt, vs0, resL, at2, eq_self, Nat.reduceEqDiff, reduceIte, Nat.reduceSub, Nat.reduceAdd, List.cons_append, List.nil_append]
      all_goals rfl
    ·
      intro gh X K zq zc zq2 zc2 zb zv hK
      refine J.p (PR.loadHagg (cs := [_]) rfl (one_cell he32) (hbf.sm (i := i) (by omega)) ag29) rfl ?_
      refine J.nilK ?_
      exact hK zq zc zq2 zc2 zb zv
    ·
      intro gh gh' h
      rfl
    apply GJ.st0 8 rfl
    · intro gh; conv => lhs; simp only [slotsZ, zlAt, vs0, resL, at2, eq_self, Nat.reduceEqDiff, reduceIte, Nat.reduceSub, Nat.reduceAdd, List.cons_append, List.nil_append]
      all_goals rfl
    · intro gh X; conv => lhs; simp only [slotsZ, zlAt, vs0, resL, at2, eq_self, Nat.reduceEqDiff, reduceIte, Nat.reduceSub, Nat.reduceAdd, List.cons_append, List.nil_append]
      all_goals rfl
    · intro gh X; conv => lhs; simp only [slotsZ, zlAt, vs0, resL, at2, eq_self, Nat.reduceEqDiff, reduceIte, Nat.reduceSub, Nat.reduceAdd, List.cons_append, List.nil_append]
      all_goals rfl
    ·
      intro gh X K zq zc zq2 zc2 zb zv hK
      refine J.p (PR.fldA u41 rfl sz22 rfl) rfl ?_
      refine J.nilK ?_
      exact hK zq zc zq2 zc2 zb zv
    ·
      intro gh gh' h
      rfl
    apply GJ.st0 9 rfl
    · intro gh; conv => lhs; simp only [slotsZ, zlAt, vs0, resL, at2, eq_self, Nat.reduceEqDiff, reduceIte, Nat.reduceSub, Nat.reduceAdd, List.cons_append, List.nil_append]
      all_goals rfl
    · intro gh X; conv => lhs; simp only [slotsZ, zlAt, vs0, resL, at2, eq_self, Nat.reduceEqDiff, reduceIte, Nat.reduceSub, Nat.reduceAdd, List.cons_append, List.nil_append]
      all_goals rfl
    · intro gh X; conv => lhs; simp only [slotsZ, zlAt, vs0, resL, at2, eq_self, Nat.reduceEqDiff, reduceIte, Nat.reduceSub, Nat.reduceAdd, List.cons_append, List.nil_append]
      all_goals rfl
    ·
      intro gh X K zq zc zq2 zc2 zb zv hK
      refine J.p (PR.load rfl At.z rfl pl22) rfl ?_
      refine J.nilK ?_
      exact hK zq zc zq2 zc2 zb zv
    ·
      intro gh gh' h
      rfl
    apply GJ.st0 10 rfl
    · intro gh; conv => lhs; simp only [slotsZ, zlAt, vs0, resL, at2, eq_self, Nat.reduceEqDiff, reduceIte, Nat.reduceSub, Nat.reduceAdd, List.cons_append, List.nil_append]
      all_goals rfl
    · intro gh X; conv => lhs; simp only [slotsZ, zlAt, vs0, resL, at2, eq_self, Nat.reduceEqDiff, reduceIte, Nat.reduceSub, Nat.reduceAdd, List.cons_append, List.nil_append]
      all_goals rfl
    · intro gh X; conv => lhs; simp only [slotsZ, zlAt, vs0, resL, at2, eq_self, Nat.reduceEqDiff, reduceIte, Nat.reduceSub, Nat.reduceAdd, List.cons_append, List.nil_append]
      all_goals rfl
    ·
      intro gh X K zq zc zq2 zc2 zb zv hK
      refine J.p (PR.lenSlice u22 rfl rfl) rfl ?_
      refine J.nilK ?_
      exact hK zq zc zq2 zc2 zb zv
    ·
      intro gh gh' h
      rfl
    apply GJ.st1 11 rfl
    · intro gh; conv => lhs; simp only [slotsZ, zlAt, vs0, resL, at2, eq_self, Nat.reduceEqDiff, reduceIte, Nat.reduceSub, Nat.reduceAdd, List.cons_append, List.nil_append]
      all_goals rfl
    · intro gh X; conv => lhs; simp only [slotsZ, zlAt, vs0, resL, at2, eq_self, Nat.reduceEqDiff, reduceIte, Nat.reduceSub, Nat.reduceAdd, List.cons_append, List.nil_append]
      all_goals rfl
    · intro gh X; conv => lhs; simp only [slotsZ, zlAt, vs0, resL, at2, eq_self, Nat.reduceEqDiff, reduceIte, Nat.reduceSub, Nat.reduceAdd, List.cons_append, List.nil_append]
      all_goals rfl
    ·
      intro gh X K zq zc zq2 zc2 zb zv hK
      refine J.call fn116 rfl rfl fun w hH => (l02Copy_c (b := ad.length) Fe32 (by omega) (blk (by omega)) hH).mono ?_
      rintro _ w ⟨qo36, co36, rfl, hH⟩
      refine ⟨_, rfl, fun a hF => J.of hF hH ?_⟩
      refine J.nilK ?_
      exact hK qo36 co36 zq2 zc2 zb zv
    ·
      intro gh gh' h
      refine ⟨?_, ?_⟩ <;> rfl
    apply GJ.st1 12 rfl
    · intro gh; conv => lhs; simp only [slotsZ, zlAt, vs0, resL, at2, eq_self, Nat.reduceEqDiff, reduceIte, Nat.reduceSub, Nat.reduceAdd, List.cons_append, List.nil_append]
      all_goals rfl
    · intro gh X; conv => lhs; simp only [slotsZ, zlAt, vs0, resL, at2, eq_self, Nat.reduceEqDiff, reduceIte, Nat.reduceSub, Nat.reduceAdd, List.cons_append, List.nil_append]
      all_goals rfl
    · intro gh X; conv => lhs; simp only [slotsZ, zlAt, vs0, resL, at2, eq_self, Nat.reduceEqDiff, reduceIte, Nat.reduceSub, Nat.reduceAdd, List.cons_append, List.nil_append]
      all_goals rfl
    ·
      intro gh X K zq zc zq2 zc2 zb zv hK
      refine J.mk (MK.lit1S u39 ze29 sz29 rfl rfl) rfl fun qo37 co37 => ?_
      refine J.nilK ?_
      exact hK qo37 co37 zq2 zc2 zb zv
    ·
      intro gh gh' h
      refine ⟨?_, ?_⟩ <;> (first | simp only [h 10 rfl] | rfl)
    apply GJ.st1 13 rfl
    · intro gh; conv => lhs; simp only [slotsZ, zlAt, vs0, resL, at2, eq_self, Nat.reduceEqDiff, reduceIte, Nat.reduceSub, Nat.reduceAdd, List.cons_append, List.nil_append]
      all_goals rfl
    · intro gh X; conv => lhs; simp only [slotsZ, zlAt, vs0, resL, at2, eq_self, Nat.reduceEqDiff, reduceIte, Nat.reduceSub, Nat.reduceAdd, List.cons_append, List.nil_append]
      all_goals rfl
    · intro gh X; conv => lhs; simp only [slotsZ, zlAt, vs0, resL, at2, eq_self, Nat.reduceEqDiff, reduceIte, Nat.reduceSub, Nat.reduceAdd, List.cons_append, List.nil_append]
      all_goals rfl
    ·
      intro gh X K zq zc zq2 zc2 zb zv hK
      refine J.append1 u39 ze29 sz29 by29 rfl rfl rfl rfl (by omega) (.s .z) At.z (fun _ _ => At.z) rfl fun qo38 co38 => ?_
      refine EJ.front .z ?_
      refine EJ.front (.s .z) ?_
      refine J.nilK ?_
      exact hK qo38 co38 zq2 zc2 zb zv
    ·
      intro gh gh' h
      refine ⟨?_, ?_⟩ <;> (first | simp only [h 10 rfl, h 11 rfl] | rfl)
    apply GJ.st0 14 rfl
    · intro gh; conv => lhs; simp only [slotsZ, zlAt, vs0, resL, at2, eq_self, Nat.reduceEqDiff, reduceIte, Nat.reduceSub, Nat.reduceAdd, List.cons_append, List.nil_append]
      all_goals rfl
    · intro gh X; conv => lhs; simp only [slotsZ, zlAt, vs0, resL, at2, eq_self, Nat.reduceEqDiff, reduceIte, Nat.reduceSub, Nat.reduceAdd, List.cons_append, List.nil_append]
      all_goals rfl
    · intro gh X; conv => lhs; simp only [slotsZ, zlAt, vs0, resL, at2, eq_self, Nat.reduceEqDiff, reduceIte, Nat.reduceSub, Nat.reduceAdd, List.cons_append, List.nil_append]
      all_goals rfl
    ·
      intro gh X K zq zc zq2 zc2 zb zv hK
      refine J.p (PR.fldA u41 rfl sz39 rfl) rfl ?_
      refine J.nilK ?_
      exact hK zq zc zq2 zc2 zb zv
    ·
      intro gh gh' h
      first | simp only [h 10 rfl, h 11 rfl, h 12 rfl] | rfl
    apply GJ.sn1 15 rfl
    · intro gh; conv => lhs; simp only [slotsZ, zlAt, vs0, resL, at2, eq_self, Nat.reduceEqDiff, reduceIte, Nat.reduceSub, Nat.reduceAdd, List.cons_append, List.nil_append]
      all_goals rfl
    · intro gh X; conv => lhs; simp only [slotsZ, zlAt, vs0, resL, at2, eq_self, Nat.reduceEqDiff, reduceIte, Nat.reduceSub, Nat.reduceAdd, List.cons_append, List.nil_append]
      all_goals rfl
    · intro gh X; conv => lhs; simp only [slotsZ, zlAt, vs0, resL, at2, eq_self, Nat.reduceEqDiff, reduceIte, Nat.reduceSub, Nat.reduceAdd, List.cons_append, List.nil_append]
      all_goals rfl
    ·
      intro gh X K hK
      refine J.store rfl rfl rfl rfl sz39 (by simp [*]) At.z ?_
      refine J.nilK ?_
      exact hK
    ·
      intro gh gh' h
      first | simp only [h 10 rfl, h 11 rfl, h 12 rfl] | rfl
    apply GJ.close [0, 1, 2, 3, 4, 5, 6, 7, 8, 9, 10, 11, 12, 13, 14] [0, 1, 2, 3, 4, 5, 6, 7, 8, 9, 10, 11, 12, 13, 14, 15, 16, 18, 20, 21, 22] foll0 rfl rfl rfl (by rfl)
    · intro gh; conv => lhs; simp only [slotsZ, zlAt, vs0, resL, at2, eq_self, Nat.reduceEqDiff, reduceIte, Nat.reduceSub, Nat.reduceAdd, List.cons_append, List.nil_append]
      all_goals rfl
    · intro gh; conv => lhs; simp only [slotsZ, zlAt, vs0, resL, at2, eq_self, Nat.reduceEqDiff, reduceIte, Nat.reduceSub, Nat.reduceAdd, List.cons_append, List.nil_append]
      all_goals rfl
    intro gh
    generalize (gh 10).c = co36
    generalize (gh 10).q = qo36
    generalize (gh 11).c = co37
    generalize (gh 11).q = qo37
    generalize (gh 12).c = co38
    generalize (gh 12).q = qo38
    clear gh
    refine EJ.inN ?_
    refine EJ.thenN (hK7 ?_)
    refine CJ.region ?_
    refine J.p (PR.move rfl) rfl ?_
    refine J.p (PR.add rfl rfl (by first | exact nw _ (by omega) | rfl)) rfl ?_
    refine J.p (PR.assign rfl) rfl ?_
    refine J.nil ?_
    refine EJ.thenN ?_
    refine EJ.front (.s (.s (.s (.s (.s (.s (.s (.s (.s .z))))))))) ?_
    refine EJ.front (.s (.s (.s (.s (.s (.s (.s (.s (.s .z))))))))) ?_
    refine EJ.front (.s (.s (.s (.s (.s (.s (.s (.s (.s .z))))))))) ?_
    refine EJ.front (.s (.s (.s (.s (.s (.s (.s (.s .z)))))))) ?_
    refine EJ.front (.s (.s (.s (.s (.s (.s (.s (.s .z)))))))) ?_
    refine EJ.front (.s (.s (.s (.s (.s (.s (.s (.s .z)))))))) ?_
    refine EJ.front (.s (.s (.s (.s (.s (.s (.s (.s .z)))))))) ?_
    refine EJ.front (.s (.s (.s (.s (.s (.s (.s (.s .z)))))))) ?_
    refine EJ.front (.s (.s (.s (.s (.s (.s (.s (.s (.s .z))))))))) ?_
    refine EJ.front (.s (.s (.s (.s (.s (.s (.s (.s (.s .z))))))))) ?_
    refine EJ.fsSnoc (fs := af ++ cpK ad.length bf i) (cp_len (by omega)) rfl ?_
    refine EJ.drop (.s .z) ?_
    refine EJ.drop (.s (.s (.s .z))) ?_
    exact hAg0 (qo24, co24, qo38, co38, setV vs (af.length + i) (qo36, co36), i + 1) (by show i + 1 ≤ bd.length; omega) (by show bd.length - (i + 1) < bd.length - i; omega) 33 rfl rfl ⟨rfl, trivial⟩ rfl (by dsimp only; rw [tk_ints (by omega), cp_snoc (by omega), slicesC_set (cp_len (by omega))]; rfl)
  ·
    refine CJ.exit ?_
    refine EJ.thenE ?_
    refine EJ.thenE ?_
    refine EJ.inE ?_
    refine EJ.thenN (hK3 ?_)
    refine CJ.seq fun _ hK9 _ => ?_
    refine CJ.region ?_
    refine J.p (PR.loadAll rfl (.s (.s .z)) (by simpa [*] using ag41)) rfl ?_
    refine J.storeAll rfl rfl (by first | exact bytesC_one _ | exact intsC_one _ | exact Term.c_one _ | simp [Value.oneCell']) (by simpa [*] using sz41) (by simp [*]) (.s (.s (.s (.s .z)))) ?_
    refine J.nil ?_
    refine EJ.thenN (hK9 ?_)
    refine CJ.ret ?_
    refine EJ.ret1 rfl (Res.agg rfl (.s (.s (.s (.s .z)))) (by simpa [*] using ag41)) fun w hH => ?_
    replace hH := hH.sublist (.cons_cons _ (.cons_cons _ (.cons _ (.cons_cons _ (.cons _ (.cons _ (.cons _ (List.Sublist.refl _))))))))
    have e1 : bd.take i = bd := List.take_of_length_le (by omega)
    have e2 : cpK ad.length bf i = cpA ad.length bf := by rw [show i = bf.length by omega]; exact cpK_end _ _
    have e3 : (af ++ cpA ad.length bf).length = af.length + i := by rw [List.length_append, cpA_len]; omega
    rw [e1, e2] at hH
    exact ⟨_, _, q, c, vs, by rw [e1, e3], by unfold ownFs; rw [e3]; exact ((hH.front (.s .z)).star.front (.s .z))⟩
def prOk (ad : List Int) (af : List (List Term)) (bd : List Int) (bf : List (List Term)) : Bool := isAlg ad af && isAlg bd bf
def prLe (ad bd : List Int) : Bool := decide (ad.length + bd.length ≤ 8)
def prD (ad : List Int) (af : List (List Term)) (bd : List Int) (bf : List (List Term)) : List Int := if prOk ad af bd bf && prLe ad bd then ad ++ bd else []
def prF (ad : List Int) (af : List (List Term)) (bd : List Int) (bf : List (List Term)) : List (List Term) := if prOk ad af bd bf && prLe ad bd then af ++ cpA ad.length bf else []
def prC (ad : List Int) (af : List (List Term)) (bd : List Int) (bf : List (List Term)) : Int := if prOk ad af bd bf then (if prLe ad bd then 0 else 3) else 1
theorem pr_bad {ad : List Int} {af : List (List Term)} {bd : List Int} {bf : List (List Term)} (h : prOk ad af bd bf = false) : prD ad af bd bf = [] ∧ prF ad af bd bf = [] ∧ prC ad af bd bf = 1 := by unfold prD prF prC; rw [h]; exact ⟨rfl, rfl, rfl⟩
theorem pr_big {ad : List Int} {af : List (List Term)} {bd : List Int} {bf : List (List Term)} (h : prOk ad af bd bf = true) (h2 : ¬ ad.length + bd.length ≤ 8) : prD ad af bd bf = [] ∧ prF ad af bd bf = [] ∧ prC ad af bd bf = 3 := by
  unfold prD prF prC
  rw [h, show prLe ad bd = false from decide_eq_false h2]
  exact ⟨rfl, rfl, rfl⟩
theorem pr_yes {ad : List Int} {af : List (List Term)} {bd : List Int} {bf : List (List Term)} (h : prOk ad af bd bf = true) (h2 : ad.length + bd.length ≤ 8) : prD ad af bd bf = ad ++ bd ∧ prF ad af bd bf = af ++ cpA ad.length bf ∧ prC ad af bd bf = 0 := by
  unfold prD prF prC
  rw [h, show prLe ad bd = true from decide_eq_true h2]
  exact ⟨rfl, rfl, rfl⟩
theorem isAlg_len {ds : List Int} {fs : List (List Term)} (h : isAlg ds fs = true) : ds.length ≤ 8 ∧ fs.length = ds.length := by
  unfold isAlg at h
  simp only [Bool.and_eq_true, decide_eq_true_eq] at h
  exact ⟨isDeg_len h.1.1.1, h.1.1.2⟩
theorem prF_wf {ad : List Int} {af : List (List Term)} {bd : List Int} {bf : List (List Term)} (h : Wfss af) (h2 : Wfss bf) : Wfss (prF ad af bd bf) := by
  unfold prF
  split
  · exact Wfss.app h (cpA_wf h2)
  · exact fun f hf => by simp at hf
theorem pr_len (ad : List Int) (af : List (List Term)) (bd : List Int) (bf : List (List Term)) : (prD ad af bd bf).length ≤ 8 ∧ (prF ad af bd bf).length ≤ 16 ∧ tot (prF ad af bd bf) ≤ tot af + tot bf := by
  cases h : prOk ad af bd bf with
  | false =>
    obtain ⟨e1, e2, _⟩ := pr_bad h
    rw [e1, e2]
    simp [tot]
  | true =>
    have h1 := Bool.and_eq_true_iff.1 h
    have h2 := isAlg_len h1.1
    have h3 := isAlg_len h1.2
    rcases Nat.lt_or_ge 8 (ad.length + bd.length) with h4 | h4
    · obtain ⟨e1, e2, _⟩ := pr_big (af := af) (bf := bf) h (by omega)
      rw [e1, e2]
      simp [tot]
    · obtain ⟨e1, e2, _⟩ := pr_yes h h4
      rw [e1, e2]
      simp only [List.length_append, cpA_len, tot_app, cpA_tot]
      omega
set_option maxHeartbeats 2000000 in
set_option maxRecDepth 10000 in
theorem sProduct_c {B : World} {H0 H : HP} {L : List SA} {w : World} {qad qaf : Option Addr} {cad caf : Nat} {ad : List Int} {af : List (List Term)} {qbd qbf : Option Addr} {cbd cbf : Nat} {bd : List Int} {bf : List (List Term)}  (had : Ints H qad ad) (haf : Forms H qaf af) (hbd : Ints H qbd bd) (hbf : Forms H qbf bf) (hn8 : ad.length ≤ 1048576) (hn9 : af.length ≤ 1048576) (hl9 : ∀ i, i < af.length → (fm af i).length ≤ 1048576) (bn8 : bd.length ≤ 1048576) (bn9 : bf.length ≤ 1048576) (bl9 : ∀ i, i < bf.length → (fm bf i).length ≤ 1048576) (hH : Hp B H0 H L w) :
    Calls Try.prog 62 [.agg [.slice qad ad.length cad, .slice qaf af.length caf].toArray, .agg [.slice qbd bd.length cbd, .slice qbf bf.length cbf].toArray].toArray w fun e w' => ∃ qd cd qf cf vs, e = .returned (.tuple #[.agg [.slice qd (prD ad af bd bf).length cd, .slice qf (prF ad af bd bf).length cf].toArray, .int .i64 (prC ad af bd bf)]) ∧ Hp B H0 H (own 2 1 qd (prD ad af bd bf).length cd (intsC (prD ad af bd bf)) :: ownFs 29 88 qf cf vs (prF ad af bd bf) :: L) w' := by
  refine CJ.enter Try.func62 rfl 29 rfl rfl [(0, .agg [.slice qad ad.length cad, .slice qaf af.length caf].toArray), (1, .agg [.slice qbd bd.length cbd, .slice qbf bf.length cbf].toArray)] rfl hH ?_
  clear hH
  refine CJ.seq fun _ hK1 _ => ?_
  refine CJ.region ?_
  refine J.box rfl rfl rfl fun g2 => ?_
  refine J.box rfl rfl rfl fun g3 => ?_
  refine J.alloc ze41 rfl fun g4 => ?_
  refine J.p (PR.assign rfl) rfl ?_
  refine J.nil ?_
  refine EJ.thenN (hK1 ?_)
  refine CJ.seq fun _ hK2 _ => ?_
  refine CJ.block ?_
  refine CJ.seq fun _ hK3 _ => ?_
  refine CJ.region ?_
  refine J.p (PR.loadAll rfl (.s (.s .z)) (by simpa [*] using ag41)) rfl ?_
  refine J.call fn89 rfl rfl fun w hH => (l02Is_c had haf hn8 hn9 hl9 hH).mono ?_
  rintro _ w ⟨rfl, hH⟩
  refine ⟨_, rfl, fun a hF => J.of hF hH ?_⟩
  refine J.p (PR.not rfl) rfl ?_
  refine J.p (PR.move rfl) rfl ?_
  refine J.splitB (jd := 10) rfl (fun h10 => ?_) (fun h10 => ?_)
  ·
    try have h10p := of_decide_eq_true h10
    refine J.gn rfl rfl rfl h10 ?_
    refine J.gn rfl rfl rfl h10 ?_
    refine J.gn rfl rfl rfl h10 ?_
    refine J.p (PR.pickT rfl h10 rfl) rfl ?_
    refine J.p (PR.assign rfl) rfl ?_
    refine J.nil ?_
    refine EJ.thenN (hK3 ?_)
    refine CJ.condT rfl ?_
    refine CJ.seq fun _ hK4 _ => ?_
    refine CJ.region ?_
    refine J.p (PR.buildZ bz41) rfl ?_
    refine J.storeAll rfl rfl (by first | exact bytesC_one _ | exact intsC_one _ | exact Term.c_one _ | simp [Value.oneCell']) (by simpa [*] using sz41) (by simp [*]) At.z ?_
    refine J.p (PR.assign rfl) rfl ?_
    refine J.nil ?_
    refine EJ.thenN (hK4 ?_)
    refine CJ.ret ?_
    refine EJ.inR ?_
    refine EJ.thenR ?_
    refine EJ.ret2 rfl (Res.agg rfl At.z (by simpa [*] using ag41)) (Res.tmp rfl) fun w hH => ?_
    replace hH := hH.sublist (.cons _ (.cons _ (.cons _ (List.Sublist.refl _))))
    obtain ⟨e1, e2, e3⟩ := pr_bad (bd := bd) (bf := bf) (show prOk ad af bd bf = false by unfold prOk; rw [show isAlg ad af = false by simpa using h10]; rfl)
    rw [e1, e2, e3]
    exact ⟨none, 0, none, 0, nilVs, rfl, ((hH.ownFsNil 29 88).own0 2 1)⟩
  ·
    try have h10p := of_decide_eq_false h10
    refine J.gy (PR.loadAll rfl (.s .z) (by simpa [*] using ag41)) rfl rfl rfl h10 ?_
    refine J.gcall fn89 rfl rfl h10 rfl rfl fun w hH => (l02Is_c hbd hbf bn8 bn9 bl9 hH).mono ?_
    rintro _ w ⟨rfl, hH⟩
    refine ⟨_, rfl, fun a hF => J.of hF hH ?_⟩
    refine J.gy (PR.not rfl) rfl rfl rfl h10 ?_
    refine J.p (PR.pickF rfl h10 rfl) rfl ?_
    refine J.p (PR.assign rfl) rfl ?_
    refine J.nil ?_
    refine EJ.thenN (hK3 ?_)
    refine CJ.cond rfl (fun h6 => ?_) (fun h6 => ?_)
    ·
      refine CJ.seq fun _ hK5 _ => ?_
      refine CJ.region ?_
      refine J.p (PR.buildZ bz41) rfl ?_
      refine J.storeAll rfl rfl (by first | exact bytesC_one _ | exact intsC_one _ | exact Term.c_one _ | simp [Value.oneCell']) (by simpa [*] using sz41) (by simp [*]) At.z ?_
      refine J.p (PR.assign rfl) rfl ?_
      refine J.nil ?_
      refine EJ.thenN (hK5 ?_)
      refine CJ.ret ?_
      refine EJ.inR ?_
      refine EJ.thenR ?_
      refine EJ.ret2 rfl (Res.agg rfl At.z (by simpa [*] using ag41)) (Res.tmp rfl) fun w hH => ?_
      replace hH := hH.sublist (.cons _ (.cons _ (.cons _ (List.Sublist.refl _))))
      obtain ⟨e1, e2, e3⟩ := pr_bad (show prOk ad af bd bf = false by unfold prOk; rw [show isAlg bd bf = false by simpa using h6, Bool.and_false])
      rw [e1, e2, e3]
      exact ⟨none, 0, none, 0, nilVs, rfl, ((hH.ownFsNil 29 88).own0 2 1)⟩
    ·
      have hPa : isAlg ad af = true := by simpa using h10
      have hPb : isAlg bd bf = true := by simpa using h6
      have hPo : prOk ad af bd bf = true := by unfold prOk; rw [hPa, hPb]; rfl
      have hPl := isAlg_len hPa
      have hPm := isAlg_len hPb
      refine CJ.seq fun _ hK6 _ => ?_
      refine CJ.region ?_
      refine J.p (PR.fldA u41 rfl sz22 rfl) rfl ?_
      refine J.p (PR.load rfl (.s (.s .z)) rfl pl22) rfl ?_
      refine J.p (PR.lenSlice u22 rfl rfl) rfl ?_
      refine J.p (PR.fldA u41 rfl sz22 rfl) rfl ?_
      refine J.p (PR.load rfl (.s .z) rfl pl22) rfl ?_
      refine J.p (PR.lenSlice u22 rfl rfl) rfl ?_
      refine J.p (PR.add rfl rfl (by first | exact nw _ (by omega) | rfl)) rfl ?_
      refine J.p (PR.gtr rfl rfl) rfl ?_
      refine J.p (PR.assign rfl) rfl ?_
      refine J.nil ?_
      refine EJ.thenN (hK6 ?_)
      refine CJ.condD rfl (fun h16 => ?_) (fun h16 => ?_)
      ·
        refine CJ.seq fun _ hK7 _ => ?_
        refine CJ.region ?_
        refine J.p (PR.buildZ bz41) rfl ?_
        refine J.storeAll rfl rfl (by first | exact bytesC_one _ | exact intsC_one _ | exact Term.c_one _ | simp [Value.oneCell']) (by simpa [*] using sz41) (by simp [*]) At.z ?_
        refine J.p (PR.assign rfl) rfl ?_
        refine J.nil ?_
        refine EJ.thenN (hK7 ?_)
        refine CJ.ret ?_
        refine EJ.inR ?_
        refine EJ.thenR ?_
        refine EJ.ret2 rfl (Res.agg rfl At.z (by simpa [*] using ag41)) (Res.tmp rfl) fun w hH => ?_
        replace hH := hH.sublist (.cons _ (.cons _ (.cons _ (List.Sublist.refl _))))
        obtain ⟨e1, e2, e3⟩ := pr_big hPo (by omega)
        rw [e1, e2, e3]
        exact ⟨none, 0, none, 0, nilVs, rfl, ((hH.ownFsNil 29 88).own0 2 1)⟩
      ·
        refine CJ.skip ?_
        refine EJ.inN ?_
        refine EJ.thenN (hK2 ?_)
        refine CJ.seq fun _ hK8 _ => ?_
        refine CJ.region ?_
        refine J.p (PR.loadAll rfl (.s (.s .z)) (by simpa [*] using ag41)) rfl ?_
        refine J.p (PR.loadAll rfl (.s .z) (by simpa [*] using ag41)) rfl ?_
        refine J.call fn122 rfl rfl fun w hH => (l02Product_c had haf hbd hbf (by omega) hl9 (by omega) bl9 (by omega) (by omega) (by omega) hH).mono ?_
        rintro _ w ⟨qdo28, cdo28, qfo28, cfo28, vso28, rfl, hH⟩
        refine ⟨_, rfl, fun a hF => J.of hF hH ?_⟩
        refine J.storeAll rfl rfl (by first | exact bytesC_one _ | exact intsC_one _ | exact Term.c_one _ | simp [Value.oneCell']) (by simpa [*] using sz41) (by simp [*]) (.s (.s .z)) ?_
        refine J.p (PR.assign rfl) rfl ?_
        refine J.nil ?_
        refine EJ.thenN (hK8 ?_)
        refine CJ.ret ?_
        refine EJ.ret2 rfl (Res.agg rfl (.s (.s .z)) (by simpa [*] using ag41)) (Res.tmp rfl) fun w hH => ?_
        replace hH := hH.sublist (.cons_cons _ (.cons_cons _ (.cons _ (.cons _ (.cons _ (List.Sublist.refl _))))))
        obtain ⟨e1, e2, e3⟩ := pr_yes hPo (by omega)
        rw [e1, e2, e3]
        exact ⟨_, _, _, _, _, rfl, hH⟩
end Go.Proofs.Ytpojpokldncglaa.G
namespace Go.Proofs.Ytpojpokldncglaa.G
open Go Go.RowKit
namespace Od
theorem u22 : Try.prog.underlying 22 = some (TypeDesc.slice 2) := by kernel_rfl
theorem u3 : Try.prog.underlying 3 = some (TypeDesc.int .i64) := by kernel_rfl
theorem u62 : Try.prog.underlying 62 = some (TypeDesc.slice 22) := by kernel_rfl
theorem sz2 : Size Try.prog 2 1 := by unfold Size; kernel_rfl
theorem sz22 : Size Try.prog 22 1 := by unfold Size; kernel_rfl
theorem by2 : Bytes Try.prog 2 8 := by unfold Bytes; kernel_rfl
theorem ze2 : Zero Try.prog 2 [.int .i64 0] := by unfold Zero; kernel_rfl
theorem pl22 : Plain Try.prog 22 := ⟨_, u22, rfl⟩
theorem fn179 : Fn Try.prog 179 := ⟨_, Try.func179, by kernel_rfl, rfl⟩
end Od
open Od
set_option maxRecDepth 10000 in
theorem GrowI_c {B : World} {H0 H : HP} {L : List SA} {w : World}  {n : Nat}  (hn : n ≤ 1048576) (hH : Hp B H0 H L w) :
    Calls Try.prog 179 [.slice none 0 0, .int .i64 (n : Int)].toArray w fun e w' => ∃ q c, e = .returned (.slice q ([] : List Int).length c) ∧ Hp B H0 H (own 2 1 q ([] : List Int).length c (intsC []) :: L) w' := by
  refine CJ.enter Try.func179 rfl 27 rfl rfl [(0, .slice none 0 0), (1, .int .i64 (n : Int))] rfl hH ?_
  clear hH
  refine CJ.seq fun _ hK1 _ => ?_
  refine CJ.region ?_
  refine J.p (PR.assign rfl) rfl ?_
  refine J.nil ?_
  refine EJ.thenN (hK1 ?_)
  refine CJ.seq fun _ hK2 _ => ?_
  refine CJ.seq fun _ hK3 _ => ?_
  refine CJ.region ?_
  refine J.p (PR.move rfl) rfl ?_
  refine J.p (PR.lss rfl rfl) rfl ?_
  refine J.nil ?_
  refine EJ.thenN (hK3 ?_)
  refine CJ.condD rfl (fun h6 => ?_) (fun h6 => ?_)
  ·
    exact absurd h6 (by omega)
  ·
    refine CJ.skip ?_
    refine EJ.thenN (hK2 ?_)
    refine CJ.seq fun _ hK4 _ => ?_
    refine CJ.seq fun _ hK5 _ => ?_
    refine CJ.region ?_
    refine J.p (PR.move rfl) rfl ?_
    refine J.p (PR.move rfl) rfl ?_
    refine J.p (PR.capS u22 rfl) rfl ?_
    refine J.p (PR.move rfl) rfl ?_
    refine J.p (PR.lenSlice u22 rfl rfl) rfl ?_
    refine J.p (PR.sub rfl rfl (by first | exact nw _ (by omega) | rfl)) rfl ?_
    refine J.p (PR.sub rfl rfl (by first | exact nw _ (by omega) | rfl)) rfl ?_
    refine J.p (PR.assign rfl) rfl ?_
    refine J.nil ?_
    refine EJ.thenN (hK5 ?_)
    refine CJ.seq fun _ hK6 _ => ?_
    refine CJ.region ?_
    refine J.p (PR.move rfl) rfl ?_
    refine J.p (PR.gtr rfl rfl) rfl ?_
    refine J.nil ?_
    refine EJ.thenN (hK6 ?_)
    refine CJ.condD rfl (fun h16 => ?_) (fun h16 => ?_)
    ·
      refine CJ.region ?_
      refine J.p (PR.move rfl) rfl ?_
      refine J.p (PR.move rfl) rfl ?_
      refine J.p (PR.capS u22 rfl) rfl ?_
      refine J.p (PR.sliceHi (i' := 0) u22 sz2 rfl rfl rfl (by omega)) rfl ?_
      refine J.p (PR.move rfl) rfl ?_
      refine J.appendMk (m := n) u22 u3 ze2 sz2 by2 rfl rfl rfl (by omega) (by omega) (by omega) rfl fun gG cG => ?_
      refine J.p (PR.move rfl) rfl ?_
      refine J.p (PR.lenSlice u22 rfl rfl) rfl ?_
      refine J.p (PR.sliceHi (i' := 0) u22 sz2 rfl rfl rfl (by omega)) rfl ?_
      refine J.p (PR.assign rfl) rfl ?_
      refine J.nil ?_
      refine EJ.thenN (hK4 ?_)
      refine CJ.seq fun _ hK7 _ => ?_
      refine CJ.region ?_
      refine J.p (PR.move rfl) rfl ?_
      refine J.p (PR.assign rfl) rfl ?_
      refine J.nil ?_
      refine EJ.thenN (hK7 ?_)
      refine CJ.ret ?_
      refine EJ.ret1 rfl (Res.tmp rfl) fun w hH => ?_
      replace hH := hH.sublist (.cons_cons _ (List.Sublist.refl _))
      exact ⟨some ⟨gG, 0, none⟩, cG, rfl, hH⟩
    ·
      refine CJ.skip ?_
      refine EJ.thenN (hK4 ?_)
      refine CJ.seq fun _ hK8 _ => ?_
      refine CJ.region ?_
      refine J.p (PR.move rfl) rfl ?_
      refine J.p (PR.assign rfl) rfl ?_
      refine J.nil ?_
      refine EJ.thenN (hK8 ?_)
      refine CJ.ret ?_
      refine EJ.ret1 rfl (Res.tmp rfl) fun w hH => ?_
      replace hH := hH.sublist (List.Sublist.refl _)
      exact ⟨none, 0, rfl, hH.own0 2 1⟩
set_option maxHeartbeats 2000000 in
set_option maxRecDepth 10000 in
theorem ConcatI_c {B : World} {H0 H : HP} {L : List SA} {w : World} {qrs : Option Addr} {crs : Nat} {rs : List (List Int)}  (hrs : RowsR H qrs rs) (hn : rs.length ≤ 1048576) (ht : totI rs ≤ 1048576) (hH : Hp B H0 H L w) :
    Calls Try.prog 161 [.slice qrs rs.length crs].toArray w fun e w' => ∃ q c, e = .returned (.slice q rs.flatten.length c) ∧ Hp B H0 H (own 2 1 q rs.flatten.length c (intsC rs.flatten) :: L) w' := by
  refine CJ.enter Try.func161 rfl 36 rfl rfl [(0, .slice qrs rs.length crs)] rfl hH ?_
  clear hH
  refine CJ.seq fun _ hK1 _ => ?_
  refine CJ.region ?_
  refine J.p (PR.assign rfl) rfl ?_
  refine J.nil ?_
  refine EJ.thenN (hK1 ?_)
  refine CJ.seq fun _ hK2 _ => ?_
  refine CJ.region ?_
  refine J.p (PR.assign rfl) rfl ?_
  refine J.nil ?_
  refine EJ.thenN (hK2 ?_)
  refine CJ.seq fun _ hK3 _ => ?_
  refine CJ.seq fun _ hK4 _ => ?_
  refine CJ.region ?_
  refine J.p (PR.move rfl) rfl ?_
  refine J.p (PR.lenSlice u62 rfl rfl) rfl ?_
  refine J.p (PR.move rfl) rfl ?_
  refine J.nil ?_
  refine EJ.thenN (hK4 ?_)
  refine CJ.block ?_
  refine CJ.loopU (σ := Nat) (fun (k : Nat) => [(11, .int .i64 (k : Int)), (3, .int .i64 ((totI (rs.take k) : Nat) : Int))]) (fun (k : Nat) => H) (fun (k : Nat) => L) (fun (k : Nat) => k ≤ rs.length) (fun (k : Nat) => rs.length - k) 0 (by omega) ⟨rfl, ⟨(vi (by simp [totI])), trivial⟩⟩ rfl rfl ?_
  rintro k hk _ hAg0
  have htl : k < rs.length → totI (rs.take k) + (rw_ rs k).length ≤ totI rs := fun h => totI_take_le h
  have hts : k < rs.length → totI (rs.take (k + 1)) = totI (rs.take k) + (rw_ rs k).length := fun h => totI_succ h
  refine CJ.seq fun _ hK5 _ => ?_
  refine CJ.region ?_
  refine J.p (PR.lss rfl rfl) rfl ?_
  refine J.nil ?_
  refine EJ.thenN (hK5 ?_)
  refine CJ.seq fun _ hK6 _ => ?_
  refine CJ.condD rfl (fun hc12 => ?_) (fun hc12 => ?_)
  ·
    refine CJ.skip ?_
    refine EJ.thenN (hK6 ?_)
    refine CJ.seq fun _ hK7 _ => ?_
    refine CJ.block ?_
    refine CJ.seq fun _ hK8 _ => ?_
    refine CJ.region ?_
    refine J.p (PR.idx1 u62 sz22 rfl rfl rfl (by omega) hrs.sm) rfl ?_
    obtain ⟨qe14, ce14, he14, le14, Fe14⟩ := hrs k (by omega)
    refine J.p (PR.loadH rfl he14 pl22) rfl ?_
    refine J.p (PR.assign rfl) rfl ?_
    refine J.nil ?_
    refine EJ.thenN (hK8 ?_)
    refine CJ.seq fun _ hK9 _ => ?_
    refine CJ.region ?_
    refine J.p (PR.move rfl) rfl ?_
    refine J.p (PR.move rfl) rfl ?_
    refine J.p (PR.lenSlice u22 rfl rfl) rfl ?_
    refine J.p (PR.add rfl rfl (by first | exact nw _ (by omega) | rfl)) rfl ?_
    refine J.p (PR.assign rfl) rfl ?_
    refine J.nil ?_
    refine EJ.thenN (hK9 ?_)
    refine CJ.seq fun _ hK10 _ => ?_
    refine CJ.region ?_
    refine J.p (PR.move rfl) rfl ?_
    refine J.p (PR.lss rfl rfl) rfl ?_
    refine J.nil ?_
    refine EJ.thenN (hK10 ?_)
    refine CJ.condD rfl (fun h20 => ?_) (fun h20 => ?_)
    ·
      exact absurd h20 (by omega)
    ·
      refine CJ.skip ?_
      refine EJ.inN ?_
      refine EJ.thenN (hK7 ?_)
      refine CJ.region ?_
      refine J.p (PR.add rfl rfl (by first | exact nw _ (by omega) | rfl)) rfl ?_
      refine J.p (PR.move rfl) rfl ?_
      refine J.nil ?_
      refine EJ.thenN ?_
      exact hAg0 (k + 1) (by omega) (by omega) 15 rfl rfl ⟨rfl, ⟨(vi (by rw [hts (by omega)]; omega)), trivial⟩⟩ rfl rfl
  ·
    refine CJ.exit ?_
    refine EJ.thenE ?_
    refine EJ.thenE ?_
    refine EJ.inE ?_
    refine EJ.thenN (hK3 ?_)
    refine CJ.seq fun _ hK11 _ => ?_
    refine CJ.region ?_
    refine J.p (PR.move (by rw [show k = rs.length by omega, List.take_length]; rfl)) rfl ?_
    refine J.call fn179 rfl rfl fun w hH => (GrowI_c (n := totI rs) (by omega) hH).mono ?_
    rintro _ w ⟨qo24, co24, rfl, hH⟩
    refine ⟨_, rfl, fun a hF => J.of hF hH ?_⟩
    refine J.p (PR.assign rfl) rfl ?_
    refine J.nil ?_
    refine EJ.thenN (hK11 ?_)
    refine CJ.seq fun _ hK12 _ => ?_
    refine CJ.seq fun _ hK13 _ => ?_
    refine CJ.region ?_
    refine J.p (PR.move rfl) rfl ?_
    refine J.p (PR.lenSlice u62 rfl rfl) rfl ?_
    refine J.p (PR.move rfl) rfl ?_
    refine J.nil ?_
    refine EJ.thenN (hK13 ?_)
    refine CJ.block ?_
    refine CJ.loopU (σ := Option Addr × Nat × Nat) (fun ⟨q, c, k⟩ => [(27, .int .i64 (k : Int)), (6, .slice q (flK rs k).length c)]) (fun ⟨q, c, k⟩ => H) (fun ⟨q, c, k⟩ => own 2 1 q (flK rs k).length c (intsC (flK rs k)) :: L) (fun ⟨q, c, k⟩ => k ≤ rs.length) (fun ⟨q, c, k⟩ => rs.length - k) (qo24, co24, 0) (by show 0 ≤ rs.length; omega) ⟨rfl, ⟨rfl, trivial⟩⟩ rfl rfl ?_
    rintro ⟨q, c, k⟩ hk2 _ hAg1
    have hfl := flK_len rs k
    have htl : k < rs.length → totI (rs.take k) + (rw_ rs k).length ≤ totI rs := fun h => totI_take_le h
    refine CJ.seq fun _ hK14 _ => ?_
    refine CJ.region ?_
    refine J.p (PR.lss rfl rfl) rfl ?_
    refine J.nil ?_
    refine EJ.thenN (hK14 ?_)
    refine CJ.seq fun _ hK15 _ => ?_
    refine CJ.condD rfl (fun hc28 => ?_) (fun hc28 => ?_)
    ·
      refine CJ.skip ?_
      refine EJ.thenN (hK15 ?_)
      refine CJ.seq fun _ hK16 _ => ?_
      refine CJ.block ?_
      refine CJ.seq fun _ hK17 _ => ?_
      refine CJ.region ?_
      refine J.p (PR.idx1 u62 sz22 rfl rfl rfl (by omega) hrs.sm) rfl ?_
      obtain ⟨qe30, ce30, he30, le30, Fe30⟩ := hrs k (by omega)
      refine J.p (PR.loadH rfl he30 pl22) rfl ?_
      refine J.p (PR.assign rfl) rfl ?_
      refine J.nil ?_
      refine EJ.thenN (hK17 ?_)
      refine CJ.region ?_
      refine J.p (PR.move rfl) rfl ?_
      refine J.p (PR.move rfl) rfl ?_
      refine J.appendHI u22 ze2 sz2 by2 rfl rfl Fe30 (by omega) At.z (fun _ _ => At.z) rfl fun qo33 co33 => ?_
      refine J.p (PR.assign rfl) rfl ?_
      refine J.nil ?_
      refine EJ.inN ?_
      refine EJ.thenN (hK16 ?_)
      refine CJ.region ?_
      refine J.p (PR.add rfl rfl (by first | exact nw _ (by omega) | rfl)) rfl ?_
      refine J.p (PR.move rfl) rfl ?_
      refine J.nil ?_
      refine EJ.thenN ?_
      exact hAg1 (qo33, co33, k + 1) (by show k + 1 ≤ rs.length; omega) (by show rs.length - (k + 1) < rs.length - k; omega) 12 rfl rfl ⟨rfl, ⟨(by dsimp only; rw [flK_succ (by omega)]; rfl), trivial⟩⟩ rfl (by dsimp only; rw [flK_succ (by omega)])
    ·
      refine CJ.exit ?_
      refine EJ.thenE ?_
      refine EJ.thenE ?_
      refine EJ.inE ?_
      refine EJ.thenN (hK12 ?_)
      refine CJ.seq fun _ hK18 _ => ?_
      refine CJ.region ?_
      refine J.p (PR.move rfl) rfl ?_
      refine J.p (PR.assign rfl) rfl ?_
      refine J.nil ?_
      refine EJ.thenN (hK18 ?_)
      refine CJ.ret ?_
      refine EJ.ret1 rfl (Res.tmp rfl) fun w hH => ?_
      replace hH := hH.sublist (.cons_cons _ (List.Sublist.refl _))
      obtain rfl : k = rs.length := by omega
      rw [flK_end] at hH ⊢
      exact ⟨_, _, rfl, hH⟩
end Go.Proofs.Ytpojpokldncglaa.G
namespace Go.Proofs.Ytpojpokldncglaa.G
open Go Go.RowKit
namespace Oe
theorem u22 : Try.prog.underlying 22 = some (TypeDesc.slice 2) := by kernel_rfl
theorem u29 : Try.prog.underlying 29 = some (TypeDesc.struct #[{ name := "Terms", type := 27, offset := 0, embedded := false, tag := "", pkgPath := "", byteOffset := 0 }]) := by kernel_rfl
theorem u39 : Try.prog.underlying 39 = some (TypeDesc.slice 29) := by kernel_rfl
theorem u41 : Try.prog.underlying 41 = some (TypeDesc.struct #[{ name := "Degrees", type := 22, offset := 0, embedded := false, tag := "", pkgPath := "", byteOffset := 0 }, { name := "Images", type := 39, offset := 1, embedded := false, tag := "", pkgPath := "", byteOffset := 24 }]) := by kernel_rfl
theorem u62 : Try.prog.underlying 62 = some (TypeDesc.slice 22) := by kernel_rfl
theorem sz22 : Size Try.prog 22 1 := by unfold Size; kernel_rfl
theorem sz29 : Size Try.prog 29 1 := by unfold Size; kernel_rfl
theorem sz39 : Size Try.prog 39 1 := by unfold Size; kernel_rfl
theorem sz41 : Size Try.prog 41 2 := by unfold Size; kernel_rfl
theorem by29 : Bytes Try.prog 29 24 := by unfold Bytes; kernel_rfl
theorem ze22 : Zero Try.prog 22 [.slice none 0 0] := by unfold Zero; kernel_rfl
theorem ze29 : Zero Try.prog 29 [.slice none 0 0] := by unfold Zero; kernel_rfl
theorem ze41 : Zero Try.prog 41 [.slice none 0 0, .slice none 0 0] := by unfold Zero; kernel_rfl
theorem bz41 : ∀ w, (Instr.build 41 #[]).run Try.prog w = .ok (.agg [.slice none 0 0, .slice none 0 0].toArray) w := fun _ => by kernel_rfl
theorem pl22 : Plain Try.prog 22 := ⟨_, u22, rfl⟩
theorem pl39 : Plain Try.prog 39 := ⟨_, u39, rfl⟩
theorem ag29 : Agg Try.prog 29 1 := ⟨_, u29, rfl, by kernel_rfl⟩
theorem ag41 : Agg Try.prog 41 2 := ⟨_, u41, rfl, by kernel_rfl⟩
theorem fn118 : Fn Try.prog 118 := ⟨_, Try.func118, by kernel_rfl, rfl⟩
theorem fn161 : Fn Try.prog 161 := ⟨_, Try.func161, by kernel_rfl, rfl⟩
theorem bd41_0 : ∀ (q0 : Option Addr) (m0 c0 : Nat) w, (Instr.build 41 #[(0, .slice q0 m0 c0)]).run Try.prog w = .ok (.agg [.slice q0 m0 c0, .slice none 0 0].toArray) w := fun q0 m0 c0 _ => by kernel_rfl
theorem foll0 : Try.prog.follows .mixedOrders = true := by kernel_rfl
end Oe
open Oe
def poD (ad bd : List Int) : List Int := if prLe ad bd then ad ++ bd else []
def poF (ad : List Int) (af : List (List Term)) (bd : List Int) (bf : List (List Term)) : List (List Term) := if prLe ad bd then af ++ cpA ad.length bf else []
def poC (ad bd : List Int) : Int := if prLe ad bd then 0 else 3
theorem po_big {ad : List Int} {af : List (List Term)} {bd : List Int} {bf : List (List Term)} (h2 : ¬ ad.length + bd.length ≤ 8) : poD ad bd = [] ∧ poF ad af bd bf = [] ∧ poC ad bd = 3 := by
  unfold poD poF poC
  rw [show prLe ad bd = false from decide_eq_false h2]
  exact ⟨rfl, rfl, rfl⟩
theorem po_yes {ad : List Int} {af : List (List Term)} {bd : List Int} {bf : List (List Term)} (h2 : ad.length + bd.length ≤ 8) : poD ad bd = ad ++ bd ∧ poF ad af bd bf = af ++ cpA ad.length bf ∧ poC ad bd = 0 := by
  unfold poD poF poC
  rw [show prLe ad bd = true from decide_eq_true h2]
  exact ⟨rfl, rfl, rfl⟩
theorem po_pr {ad : List Int} {af : List (List Term)} {bd : List Int} {bf : List (List Term)} (h : prOk ad af bd bf = true) : prD ad af bd bf = poD ad bd ∧ prF ad af bd bf = poF ad af bd bf ∧ prC ad af bd bf = poC ad bd := by
  unfold prD prF prC poD poF poC
  rw [h]
  exact ⟨rfl, rfl, rfl⟩
theorem ConcatI_2 {B : World} {H0 H : HP} {L : List SA} {w : World} {q : Option Addr} {c : Nat} {xs ys : List Int} (h : RowsR H q [xs, ys]) (hn : xs.length + ys.length ≤ 1000000) (hH : Hp B H0 H L w) :
    Calls Try.prog 161 [.slice q 2 c].toArray w fun e w' => ∃ q c, e = .returned (.slice q (xs ++ ys).length c) ∧ Hp B H0 H (own 2 1 q (xs ++ ys).length c (intsC (xs ++ ys)) :: L) w' := by
  have h1 := ConcatI_c (crs := c) (rs := [xs, ys]) h (by simp) (by simp [totI]; omega) hH
  have e : [xs, ys].flatten = xs ++ ys := by simp
  rw [e] at h1
  exact h1
set_option maxHeartbeats 1000000 in
set_option maxRecDepth 10000 in
theorem productOf_c {B : World} {H0 H : HP} {L : List SA} {w : World} {ba : Nat} {qad qaf : Option Addr} {cad caf : Nat} {ad : List Int} {af : List (List Term)} {bb : Nat} {qbd qbf : Option Addr} {cbd cbf : Nat} {bd : List Int} {bf : List (List Term)}  (pad : CellAt H ba 0 (.slice qad ad.length cad)) (paf : CellAt H ba 1 (.slice qaf af.length caf)) (had : Ints H qad ad) (haf : Forms H qaf af) (pbd : CellAt H bb 0 (.slice qbd bd.length cbd)) (pbf : CellAt H bb 1 (.slice qbf bf.length cbf)) (hbd : Ints H qbd bd) (hbf : Forms H qbf bf) (hal : af.length = ad.length) (hbl : bf.length = bd.length) (ha8 : ad.length ≤ 8) (hb8 : bd.length ≤ 8) (hl : ∀ i, i < af.length → (fm af i).length ≤ 1048576) (bl : ∀ i, i < bf.length → (fm bf i).length ≤ 1048576) (hca : ad.length ≤ cad) (hcb : bd.length ≤ cbd) (hH : Hp B H0 H L w) :
    Calls Try.prog 123 [.pointer (some ⟨ba, 0, none⟩), .pointer (some ⟨bb, 0, none⟩)].toArray w fun e w' => ∃ qd cd qf cf vs, e = .returned (.tuple #[.agg [.slice qd (poD ad bd).length cd, .slice qf (poF ad af bd bf).length cf].toArray, .int .i64 (poC ad bd)]) ∧ Hp B H0 H (own 2 1 qd (poD ad bd).length cd (intsC (poD ad bd)) :: ownFs 29 88 qf cf vs (poF ad af bd bf) :: L) w' := by
  refine CJ.enter Try.func123 rfl 73 rfl rfl [(0, .pointer (some ⟨ba, 0, none⟩)), (1, .pointer (some ⟨bb, 0, none⟩))] rfl hH ?_
  clear hH
  refine CJ.seq fun _ hK1 _ => ?_
  refine CJ.region ?_
  refine J.alloc ze41 rfl fun g4 => ?_
  refine J.p (PR.assign rfl) rfl ?_
  refine J.nil ?_
  refine EJ.thenN (hK1 ?_)
  refine CJ.seq fun _ hK2 _ => ?_
  refine CJ.region ?_
  refine J.p (PR.move rfl) rfl ?_
  refine J.p (PR.nilCheck rfl) rfl ?_
  refine J.p (PR.fldA u41 rfl sz22 rfl) rfl ?_
  refine J.p (PR.loadH (q := some ⟨ba, 0, none⟩) (k := 0) rfl pad pl22) rfl ?_
  refine J.p (PR.lenSlice u22 rfl rfl) rfl ?_
  refine J.p (PR.assign rfl) rfl ?_
  refine J.nil ?_
  refine EJ.thenN (hK2 ?_)
  refine CJ.seq fun _ hK3 _ => ?_
  refine CJ.seq fun _ hK4 _ => ?_
  refine CJ.region ?_
  refine J.p (PR.move rfl) rfl ?_
  refine J.p (PR.move rfl) rfl ?_
  refine J.p (PR.nilCheck rfl) rfl ?_
  refine J.p (PR.fldA u41 rfl sz22 rfl) rfl ?_
  refine J.p (PR.loadH (q := some ⟨bb, 0, none⟩) (k := 0) rfl pbd pl22) rfl ?_
  refine J.p (PR.lenSlice u22 rfl rfl) rfl ?_
  refine J.p (PR.add rfl rfl (by first | exact nw _ (by omega) | rfl)) rfl ?_
  refine J.p (PR.gtr rfl rfl) rfl ?_
  refine J.nil ?_
  refine EJ.thenN (hK4 ?_)
  refine CJ.condD rfl (fun h24 => ?_) (fun h24 => ?_)
  ·
    refine CJ.seq fun _ hK5 _ => ?_
    refine CJ.region ?_
    refine J.p (PR.buildZ bz41) rfl ?_
    refine J.storeAll rfl rfl (by first | exact bytesC_one _ | exact intsC_one _ | exact Term.c_one _ | simp [Value.oneCell']) (by simpa [*] using sz41) (by simp [*]) At.z ?_
    refine J.p (PR.assign rfl) rfl ?_
    refine J.nil ?_
    refine EJ.thenN (hK5 ?_)
    refine CJ.ret ?_
    refine EJ.thenR ?_
    refine EJ.ret2 rfl (Res.agg rfl At.z (by simpa [*] using ag41)) (Res.tmp rfl) fun w hH => ?_
    replace hH := hH.sublist (.cons _ (List.Sublist.refl _))
    obtain ⟨e1, e2, e3⟩ := po_big (ad := ad) (bd := bd) (af := af) (bf := bf) (by omega)
    rw [e1, e2, e3]
    exact ⟨none, 0, none, 0, nilVs, rfl, ((hH.ownFsNil 29 88).own0 2 1)⟩
  ·
    refine CJ.skip ?_
    refine EJ.thenN (hK3 ?_)
    refine CJ.seq fun _ hK6 _ => ?_
    refine CJ.openR (Rs := [_]) 13 [[], [0], [0, 1], [0, 1, 2], [], [4], [4, 5], [4, 5, 6], [0, 1, 2, 3, 4, 5, 6, 7], [0, 1, 2, 3, 4, 5, 6, 7, 8], [0, 1, 2, 3, 4, 5, 6, 7, 8, 9], [], [0, 1, 2, 3, 4, 5, 6, 7, 8, 9, 10, 11]] [[], [], [], [], [], [], [], [], [], [8], [], [], []] [[], [], [], [], [], [], [], [], [], [], [], [], [11]] rfl rfl (by kernel_rfl) ?_
    apply GJ.st0 1 rfl
    · intro gh; conv => lhs; simp only [slotsZ, zlAt, vs0, resL, at2, eq_self, Nat.reduceEqDiff, reduceIte, Nat.reduceSub, Nat.reduceAdd, List.cons_append, List.nil_append]
      all_goals rfl
    · intro gh X; conv => lhs; simp only [slotsZ, zlAt, vs0, resL, at2, eq_self, Nat.reduceEqDiff, reduceIte, Nat.reduceSub, Nat.reduceAdd, List.cons_append, List.nil_append]
      all_goals rfl
    · intro gh X; conv => lhs; simp only [slotsZ, zlAt, vs0, resL, at2, eq_self, Nat.reduceEqDiff, reduceIte, Nat.reduceSub, Nat.reduceAdd, List.cons_append, List.nil_append]
      all_goals rfl
    ·
      intro gh X K zq zc zq2 zc2 zb zv hK
      refine J.p (PR.move rfl) rfl ?_
      refine J.nilK ?_
      exact hK zq zc zq2 zc2 zb zv
    ·
      intro gh gh' h
      rfl
    apply GJ.st0 2 rfl
    · intro gh; conv => lhs; simp only [slotsZ, zlAt, vs0, resL, at2, eq_self, Nat.reduceEqDiff, reduceIte, Nat.reduceSub, Nat.reduceAdd, List.cons_append, List.nil_append]
      all_goals rfl
    · intro gh X; conv => lhs; simp only [slotsZ, zlAt, vs0, resL, at2, eq_self, Nat.reduceEqDiff, reduceIte, Nat.reduceSub, Nat.reduceAdd, List.cons_append, List.nil_append]
      all_goals rfl
    · intro gh X; conv => lhs; simp only [slotsZ, zlAt, vs0, resL, at2, eq_self, Nat.reduceEqDiff, reduceIte, Nat.reduceSub, Nat.reduceAdd, List.cons_append, List.nil_append]
      all_goals rfl
    ·
      intro gh X K zq zc zq2 zc2 zb zv hK
      refine J.p (PR.nilCheck rfl) rfl ?_
      refine J.nilK ?_
      exact hK zq zc zq2 zc2 zb zv
    ·
      intro gh gh' h
      rfl
    apply GJ.st0 3 rfl
    · intro gh; conv => lhs; simp only [slotsZ, zlAt, vs0, resL, at2, eq_self, Nat.reduceEqDiff, reduceIte, Nat.reduceSub, Nat.reduceAdd, List.cons_append, List.nil_append]
      all_goals rfl
    · intro gh X; conv => lhs; simp only [slotsZ, zlAt, vs0, resL, at2, eq_self, Nat.reduceEqDiff, reduceIte, Nat.reduceSub, Nat.reduceAdd, List.cons_append, List.nil_append]
      all_goals rfl
    · intro gh X; conv => lhs; simp only [slotsZ, zlAt, vs0, resL, at2, eq_self, Nat.reduceEqDiff, reduceIte, Nat.reduceSub, Nat.reduceAdd, List.cons_append, List.nil_append]
      all_goals rfl
    ·
      intro gh X K zq zc zq2 zc2 zb zv hK
      refine J.p (PR.fldA u41 rfl sz22 rfl) rfl ?_
      refine J.nilK ?_
      exact hK zq zc zq2 zc2 zb zv
    ·
      intro gh gh' h
      rfl
    apply GJ.st0 4 rfl
    · intro gh; conv => lhs; simp only [slotsZ, zlAt, vs0, resL, at2, eq_self, Nat.reduceEqDiff, reduceIte, Nat.reduceSub, Nat.reduceAdd, List.cons_append, List.nil_append]
      all_goals rfl
    · intro gh X; conv => lhs; simp only [slotsZ, zlAt, vs0, resL, at2, eq_self, Nat.reduceEqDiff, reduceIte, Nat.reduceSub, Nat.reduceAdd, List.cons_append, List.nil_append]
      all_goals rfl
    · intro gh X; conv => lhs; simp only [slotsZ, zlAt, vs0, resL, at2, eq_self, Nat.reduceEqDiff, reduceIte, Nat.reduceSub, Nat.reduceAdd, List.cons_append, List.nil_append]
      all_goals rfl
    ·
      intro gh X K zq zc zq2 zc2 zb zv hK
      refine J.p (PR.loadH (q := some ⟨ba, 0, none⟩) (k := 0) rfl pad pl22) rfl ?_
      refine J.nilK ?_
      exact hK zq zc zq2 zc2 zb zv
    ·
      intro gh gh' h
      rfl
    apply GJ.st0 5 rfl
    · intro gh; conv => lhs; simp only [slotsZ, zlAt, vs0, resL, at2, eq_self, Nat.reduceEqDiff, reduceIte, Nat.reduceSub, Nat.reduceAdd, List.cons_append, List.nil_append]
      all_goals rfl
    · intro gh X; conv => lhs; simp only [slotsZ, zlAt, vs0, resL, at2, eq_self, Nat.reduceEqDiff, reduceIte, Nat.reduceSub, Nat.reduceAdd, List.cons_append, List.nil_append]
      all_goals rfl
    · intro gh X; conv => lhs; simp only [slotsZ, zlAt, vs0, resL, at2, eq_self, Nat.reduceEqDiff, reduceIte, Nat.reduceSub, Nat.reduceAdd, List.cons_append, List.nil_append]
      all_goals rfl
    ·
      intro gh X K zq zc zq2 zc2 zb zv hK
      refine J.p (PR.move rfl) rfl ?_
      refine J.nilK ?_
      exact hK zq zc zq2 zc2 zb zv
    ·
      intro gh gh' h
      rfl
    apply GJ.st0 6 rfl
    · intro gh; conv => lhs; simp only [slotsZ, zlAt, vs0, resL, at2, eq_self, Nat.reduceEqDiff, reduceIte, Nat.reduceSub, Nat.reduceAdd, List.cons_append, List.nil_append]
      all_goals rfl
    · intro gh X; conv => lhs; simp only [slotsZ, zlAt, vs0, resL, at2, eq_self, Nat.reduceEqDiff, reduceIte, Nat.reduceSub, Nat.reduceAdd, List.cons_append, List.nil_append]
      all_goals rfl
    · intro gh X; conv => lhs; simp only [slotsZ, zlAt, vs0, resL, at2, eq_self, Nat.reduceEqDiff, reduceIte, Nat.reduceSub, Nat.reduceAdd, List.cons_append, List.nil_append]
      all_goals rfl
    ·
      intro gh X K zq zc zq2 zc2 zb zv hK
      refine J.p (PR.nilCheck rfl) rfl ?_
      refine J.nilK ?_
      exact hK zq zc zq2 zc2 zb zv
    ·
      intro gh gh' h
      rfl
    apply GJ.st0 7 rfl
    · intro gh; conv => lhs; simp only [slotsZ, zlAt, vs0, resL, at2, eq_self, Nat.reduceEqDiff, reduceIte, Nat.reduceSub, Nat.reduceAdd, List.cons_append, List.nil_append]
      all_goals rfl
    · intro gh X; conv => lhs; simp only [slotsZ, zlAt, vs0, resL, at2, eq_self, Nat.reduceEqDiff, reduceIte, Nat.reduceSub, Nat.reduceAdd, List.cons_append, List.nil_append]
      all_goals rfl
    · intro gh X; conv => lhs; simp only [slotsZ, zlAt, vs0, resL, at2, eq_self, Nat.reduceEqDiff, reduceIte, Nat.reduceSub, Nat.reduceAdd, List.cons_append, List.nil_append]
      all_goals rfl
    ·
      intro gh X K zq zc zq2 zc2 zb zv hK
      refine J.p (PR.fldA u41 rfl sz22 rfl) rfl ?_
      refine J.nilK ?_
      exact hK zq zc zq2 zc2 zb zv
    ·
      intro gh gh' h
      rfl
    apply GJ.st0 8 rfl
    · intro gh; conv => lhs; simp only [slotsZ, zlAt, vs0, resL, at2, eq_self, Nat.reduceEqDiff, reduceIte, Nat.reduceSub, Nat.reduceAdd, List.cons_append, List.nil_append]
      all_goals rfl
    · intro gh X; conv => lhs; simp only [slotsZ, zlAt, vs0, resL, at2, eq_self, Nat.reduceEqDiff, reduceIte, Nat.reduceSub, Nat.reduceAdd, List.cons_append, List.nil_append]
      all_goals rfl
    · intro gh X; conv => lhs; simp only [slotsZ, zlAt, vs0, resL, at2, eq_self, Nat.reduceEqDiff, reduceIte, Nat.reduceSub, Nat.reduceAdd, List.cons_append, List.nil_append]
      all_goals rfl
    ·
      intro gh X K zq zc zq2 zc2 zb zv hK
      refine J.p (PR.loadH (q := some ⟨bb, 0, none⟩) (k := 0) rfl pbd pl22) rfl ?_
      refine J.nilK ?_
      exact hK zq zc zq2 zc2 zb zv
    ·
      intro gh gh' h
      rfl
    apply GJ.st1 9 rfl
    · intro gh; conv => lhs; simp only [slotsZ, zlAt, vs0, resL, at2, eq_self, Nat.reduceEqDiff, reduceIte, Nat.reduceSub, Nat.reduceAdd, List.cons_append, List.nil_append]
      all_goals rfl
    · intro gh X; conv => lhs; simp only [slotsZ, zlAt, vs0, resL, at2, eq_self, Nat.reduceEqDiff, reduceIte, Nat.reduceSub, Nat.reduceAdd, List.cons_append, List.nil_append]
      all_goals rfl
    · intro gh X; conv => lhs; simp only [slotsZ, zlAt, vs0, resL, at2, eq_self, Nat.reduceEqDiff, reduceIte, Nat.reduceSub, Nat.reduceAdd, List.cons_append, List.nil_append]
      all_goals rfl
    ·
      intro gh X K zq zc zq2 zc2 zb zv hK
      refine J.lit2 u62 ze22 sz22 rfl rfl rfl rfl rfl fun g34 => ?_
      refine J.nilK ?_
      exact hK zq zc zq2 zc2 g34 zv
    ·
      intro gh gh' h
      refine ⟨?_, ?_⟩ <;> rfl
    apply GJ.st1 10 rfl
    · intro gh; conv => lhs; simp only [slotsZ, zlAt, vs0, resL, at2, eq_self, Nat.reduceEqDiff, reduceIte, Nat.reduceSub, Nat.reduceAdd, List.cons_append, List.nil_append]
      all_goals rfl
    · intro gh X; conv => lhs; simp only [slotsZ, zlAt, vs0, resL, at2, eq_self, Nat.reduceEqDiff, reduceIte, Nat.reduceSub, Nat.reduceAdd, List.cons_append, List.nil_append]
      all_goals rfl
    · intro gh X; conv => lhs; simp only [slotsZ, zlAt, vs0, resL, at2, eq_self, Nat.reduceEqDiff, reduceIte, Nat.reduceSub, Nat.reduceAdd, List.cons_append, List.nil_append]
      all_goals rfl
    ·
      intro gh X K zq zc zq2 zc2 zb zv hK
      refine J.call fn161 rfl rfl fun w hH => hH.lend .z fun Hl1 hle1 hA1 hB1 hH => (ConcatI_2 (xs := ad) (ys := bd) (obj_rows2 hA1 (had.le hle1) (hbd.le hle1) hca hcb) (by omega) hH).mono ?_
      rintro _ w ⟨qo35, co35, rfl, hH⟩
      replace hH := hB1 _ _ hH
      refine ⟨_, rfl, fun a hF => J.of hF hH ?_⟩
      refine EJ.front .z ?_
      refine EJ.front (.s .z) ?_
      refine J.nilK ?_
      exact hK qo35 co35 zq2 zc2 zb zv
    ·
      intro gh gh' h
      refine ⟨?_, ?_⟩ <;> (first | simp only [h 8 rfl] | rfl)
    apply GJ.st2 11 rfl
    · intro gh; conv => lhs; simp only [slotsZ, zlAt, vs0, resL, at2, eq_self, Nat.reduceEqDiff, reduceIte, Nat.reduceSub, Nat.reduceAdd, List.cons_append, List.nil_append]
      all_goals rfl
    · intro gh X; conv => lhs; simp only [slotsZ, zlAt, vs0, resL, at2, eq_self, Nat.reduceEqDiff, reduceIte, Nat.reduceSub, Nat.reduceAdd, List.cons_append, List.nil_append]
      all_goals rfl
    · intro gh X; conv => lhs; simp only [slotsZ, zlAt, vs0, resL, at2, eq_self, Nat.reduceEqDiff, reduceIte, Nat.reduceSub, Nat.reduceAdd, List.cons_append, List.nil_append]
      all_goals rfl
    ·
      intro gh X K zq zc zq2 zc2 zb zv hK
      refine J.own0 29 1 ?_
      refine J.ts0 88 ?_
      refine J.p (PR.build1 rfl (fun w => bd41_0 _ _ _ w)) rfl ?_
      refine J.nilK ?_
      exact hK zq zc zq2 zc2 zb zv
    ·
      intro gh gh' h
      refine ⟨?_, ?_, ?_⟩ <;> (first | simp only [h 8 rfl, h 9 rfl] | rfl)
    apply GJ.st1 12 rfl
    · intro gh; conv => lhs; simp only [slotsZ, zlAt, vs0, resL, at2, eq_self, Nat.reduceEqDiff, reduceIte, Nat.reduceSub, Nat.reduceAdd, List.cons_append, List.nil_append]
      all_goals rfl
    · intro gh X; conv => lhs; simp only [slotsZ, zlAt, vs0, resL, at2, eq_self, Nat.reduceEqDiff, reduceIte, Nat.reduceSub, Nat.reduceAdd, List.cons_append, List.nil_append]
      all_goals rfl
    · intro gh X; conv => lhs; simp only [slotsZ, zlAt, vs0, resL, at2, eq_self, Nat.reduceEqDiff, reduceIte, Nat.reduceSub, Nat.reduceAdd, List.cons_append, List.nil_append]
      all_goals rfl
    ·
      intro gh X K zq zc zq2 zc2 zb zv hK
      refine J.alloc ze41 rfl fun g7 => ?_
      refine J.nilK ?_
      exact hK zq zc zq2 zc2 g7 zv
    ·
      intro gh gh' h
      refine ⟨?_, ?_⟩ <;> rfl
    apply GJ.sn1 13 rfl
    · intro gh; conv => lhs; simp only [slotsZ, zlAt, vs0, resL, at2, eq_self, Nat.reduceEqDiff, reduceIte, Nat.reduceSub, Nat.reduceAdd, List.cons_append, List.nil_append]
      all_goals rfl
    · intro gh X; conv => lhs; simp only [slotsZ, zlAt, vs0, resL, at2, eq_self, Nat.reduceEqDiff, reduceIte, Nat.reduceSub, Nat.reduceAdd, List.cons_append, List.nil_append]
      all_goals rfl
    · intro gh X; conv => lhs; simp only [slotsZ, zlAt, vs0, resL, at2, eq_self, Nat.reduceEqDiff, reduceIte, Nat.reduceSub, Nat.reduceAdd, List.cons_append, List.nil_append]
      all_goals rfl
    ·
      intro gh X K hK
      refine J.storeAll rfl rfl (by first | exact bytesC_one _ | exact intsC_one _ | exact Term.c_one _ | simp [Value.oneCell']) (by simpa [*] using sz41) (by simp [*]) At.z ?_
      refine J.nilK ?_
      exact hK
    ·
      intro gh gh' h
      first | simp only [h 8 rfl, h 9 rfl, h 11 rfl] | rfl
    apply GJ.close [0, 1, 2, 3, 4, 5, 6, 7, 8, 9, 10, 11, 12] [0, 1, 2, 3, 4, 5, 6, 7, 8, 9, 10, 12, 13] foll0 rfl rfl rfl (by rfl)
    · intro gh; conv => lhs; simp only [slotsZ, zlAt, vs0, resL, at2, eq_self, Nat.reduceEqDiff, reduceIte, Nat.reduceSub, Nat.reduceAdd, List.cons_append, List.nil_append]
      all_goals rfl
    · intro gh; conv => lhs; simp only [slotsZ, zlAt, vs0, resL, at2, eq_self, Nat.reduceEqDiff, reduceIte, Nat.reduceSub, Nat.reduceAdd, List.cons_append, List.nil_append]
      all_goals rfl
    intro gh
    generalize (gh 8).b = g34
    generalize (gh 9).c = co35
    generalize (gh 9).q = qo35
    generalize (gh 11).b = g7
    clear gh
    refine EJ.thenN (hK6 ?_)
    refine CJ.seq fun _ hK7 _ => ?_
    refine CJ.seq fun _ hK8 _ => ?_
    refine CJ.region ?_
    refine J.p (PR.move rfl) rfl ?_
    refine J.p (PR.nilCheck rfl) rfl ?_
    refine J.p (PR.fldA u41 rfl sz39 rfl) rfl ?_
    refine J.p (PR.loadH (q := some ⟨ba, 0, none⟩) (k := 1) rfl paf pl39) rfl ?_
    refine J.p (PR.lenSlice u39 rfl rfl) rfl ?_
    refine J.p (PR.move rfl) rfl ?_
    refine J.nil ?_
    refine EJ.thenN (hK8 ?_)
    refine CJ.block ?_
    refine CJ.loopU (σ := Option Addr × Nat × Vs × Nat) (fun ⟨q, c, vs, k⟩ => [(42, .int .i64 (k : Int))]) (fun ⟨q, c, vs, k⟩ => H) (fun ⟨q, c, vs, k⟩ => obj g34 (.cells [.slice qad ad.length cad, .slice qbd bd.length cbd].toArray 22 (0, 0)) :: own 2 1 qo35 (ad ++ bd).length co35 (intsC (ad ++ bd)) :: ownTs 88 vs (af.take k) :: own 29 1 q k c (slicesC vs (af.take k)) :: obj g7 (.cells [.slice qo35 (ad ++ bd).length co35, .slice q k c].toArray 41 (0, 0)) :: obj g4 (.cells [.slice none 0 0, .slice none 0 0].toArray 41 (0, 0)) :: L) (fun ⟨q, c, vs, k⟩ => k ≤ af.length) (fun ⟨q, c, vs, k⟩ => af.length - k) (none, 0, nilVs, 0) (by show 0 ≤ af.length; omega) ⟨rfl, trivial⟩ rfl rfl ?_
    rintro ⟨q, c, vs, k⟩ hk _ hAg0
    have hlk := hl k
    refine CJ.seq fun _ hK9 _ => ?_
    refine CJ.region ?_
    refine J.p (PR.lss rfl rfl) rfl ?_
    refine J.nil ?_
    refine EJ.thenN (hK9 ?_)
    refine CJ.seq fun _ hK10 _ => ?_
    refine CJ.condD rfl (fun hc43 => ?_) (fun hc43 => ?_)
    ·
      refine CJ.skip ?_
      refine EJ.thenN (hK10 ?_)
      refine CJ.seq fun _ hK11 _ => ?_
      refine CJ.block ?_
      refine CJ.seq fun _ hK12 _ => ?_
      refine CJ.region ?_
      refine J.p (PR.idx1 u39 sz29 rfl rfl rfl (by omega) haf.sm) rfl ?_
      obtain ⟨qe45, ce45, he45, le45, Fe45⟩ := haf k (by omega)
      refine J.p (PR.loadHagg (cs := [_]) rfl (one_cell he45) (haf.sm (i := k) (by omega)) ag29) rfl ?_
      refine J.alloc ze29 rfl fun g9 => ?_
      refine J.storeAll rfl rfl (by first | exact bytesC_one _ | exact intsC_one _ | exact Term.c_one _ | simp [Value.oneCell']) (by simpa [*] using sz29) (by simp [*]) At.z ?_
      refine J.nil ?_
      refine EJ.thenN (hK12 ?_)
      refine CJ.openR (Rs := [_, _, _, _, _, _, _]) 8 [[], [0], [], [2], [2, 3], [0, 1, 2, 3, 4], [0, 1, 2, 3, 4, 5], [0, 1, 2, 3, 4, 5, 6]] [[], [13], [8], [], [], [4], [], []] [[], [], [], [], [], [12], [], [13]] rfl rfl (by kernel_rfl) ?_
      apply GJ.st0 1 rfl
      · intro gh; conv => lhs; simp only [slotsZ, zlAt, vs0, resL, at2, eq_self, Nat.reduceEqDiff, reduceIte, Nat.reduceSub, Nat.reduceAdd, List.cons_append, List.nil_append]
        all_goals rfl
      · intro gh X; conv => lhs; simp only [slotsZ, zlAt, vs0, resL, at2, eq_self, Nat.reduceEqDiff, reduceIte, Nat.reduceSub, Nat.reduceAdd, List.cons_append, List.nil_append]
        all_goals rfl
      · intro gh X; conv => lhs; simp only [slotsZ, zlAt, vs0, resL, at2, eq_self, Nat.reduceEqDiff, reduceIte, Nat.reduceSub, Nat.reduceAdd, List.cons_append, List.nil_append]
        all_goals rfl
      ·
        intro gh X K zq zc zq2 zc2 zb zv hK
        refine J.p (PR.fldA u41 rfl sz39 rfl) rfl ?_
        refine J.nilK ?_
        exact hK zq zc zq2 zc2 zb zv
      ·
        intro gh gh' h
        rfl
      apply GJ.st0 2 rfl
      · intro gh; conv => lhs; simp only [slotsZ, zlAt, vs0, resL, at2, eq_self, Nat.reduceEqDiff, reduceIte, Nat.reduceSub, Nat.reduceAdd, List.cons_append, List.nil_append]
        all_goals rfl
      · intro gh X; conv => lhs; simp only [slotsZ, zlAt, vs0, resL, at2, eq_self, Nat.reduceEqDiff, reduceIte, Nat.reduceSub, Nat.reduceAdd, List.cons_append, List.nil_append]
        all_goals rfl
      · intro gh X; conv => lhs; simp only [slotsZ, zlAt, vs0, resL, at2, eq_self, Nat.reduceEqDiff, reduceIte, Nat.reduceSub, Nat.reduceAdd, List.cons_append, List.nil_append]
        all_goals rfl
      ·
        intro gh X K zq zc zq2 zc2 zb zv hK
        refine J.p (PR.load rfl At.z rfl pl39) rfl ?_
        refine J.nilK ?_
        exact hK zq zc zq2 zc2 zb zv
      ·
        intro gh gh' h
        rfl
      apply GJ.st0 3 rfl
      · intro gh; conv => lhs; simp only [slotsZ, zlAt, vs0, resL, at2, eq_self, Nat.reduceEqDiff, reduceIte, Nat.reduceSub, Nat.reduceAdd, List.cons_append, List.nil_append]
        all_goals rfl
      · intro gh X; conv => lhs; simp only [slotsZ, zlAt, vs0, resL, at2, eq_self, Nat.reduceEqDiff, reduceIte, Nat.reduceSub, Nat.reduceAdd, List.cons_append, List.nil_append]
        all_goals rfl
      · intro gh X; conv => lhs; simp only [slotsZ, zlAt, vs0, resL, at2, eq_self, Nat.reduceEqDiff, reduceIte, Nat.reduceSub, Nat.reduceAdd, List.cons_append, List.nil_append]
        all_goals rfl
      ·
        intro gh X K zq zc zq2 zc2 zb zv hK
        refine J.p (PR.loadAll rfl At.z (by simpa [*] using ag29)) rfl ?_
        refine J.nilK ?_
        exact hK zq zc zq2 zc2 zb zv
      ·
        intro gh gh' h
        rfl
      apply GJ.st1 4 rfl
      · intro gh; conv => lhs; simp only [slotsZ, zlAt, vs0, resL, at2, eq_self, Nat.reduceEqDiff, reduceIte, Nat.reduceSub, Nat.reduceAdd, List.cons_append, List.nil_append]
        all_goals rfl
      · intro gh X; conv => lhs; simp only [slotsZ, zlAt, vs0, resL, at2, eq_self, Nat.reduceEqDiff, reduceIte, Nat.reduceSub, Nat.reduceAdd, List.cons_append, List.nil_append]
        all_goals rfl
      · intro gh X; conv => lhs; simp only [slotsZ, zlAt, vs0, resL, at2, eq_self, Nat.reduceEqDiff, reduceIte, Nat.reduceSub, Nat.reduceAdd, List.cons_append, List.nil_append]
        all_goals rfl
      ·
        intro gh X K zq zc zq2 zc2 zb zv hK
        refine J.call fn118 rfl rfl fun w hH => (shifted_0 Fe45 (hlk (by omega)) hH).mono ?_
        rintro _ w ⟨qo49, co49, rfl, hH⟩
        refine ⟨_, rfl, fun a hF => J.of hF hH ?_⟩
        refine J.nilK ?_
        exact hK qo49 co49 zq2 zc2 zb zv
      ·
        intro gh gh' h
        refine ⟨?_, ?_⟩ <;> rfl
      apply GJ.st1 5 rfl
      · intro gh; conv => lhs; simp only [slotsZ, zlAt, vs0, resL, at2, eq_self, Nat.reduceEqDiff, reduceIte, Nat.reduceSub, Nat.reduceAdd, List.cons_append, List.nil_append]
        all_goals rfl
      · intro gh X; conv => lhs; simp only [slotsZ, zlAt, vs0, resL, at2, eq_self, Nat.reduceEqDiff, reduceIte, Nat.reduceSub, Nat.reduceAdd, List.cons_append, List.nil_append]
        all_goals rfl
      · intro gh X; conv => lhs; simp only [slotsZ, zlAt, vs0, resL, at2, eq_self, Nat.reduceEqDiff, reduceIte, Nat.reduceSub, Nat.reduceAdd, List.cons_append, List.nil_append]
        all_goals rfl
      ·
        intro gh X K zq zc zq2 zc2 zb zv hK
        refine J.mk (MK.lit1S u39 ze29 sz29 rfl rfl) rfl fun qo50 co50 => ?_
        refine J.nilK ?_
        exact hK qo50 co50 zq2 zc2 zb zv
      ·
        intro gh gh' h
        refine ⟨?_, ?_⟩ <;> (first | simp only [h 3 rfl] | rfl)
      apply GJ.st1 6 rfl
      · intro gh; conv => lhs; simp only [slotsZ, zlAt, vs0, resL, at2, eq_self, Nat.reduceEqDiff, reduceIte, Nat.reduceSub, Nat.reduceAdd, List.cons_append, List.nil_append]
        all_goals rfl
      · intro gh X; conv => lhs; simp only [slotsZ, zlAt, vs0, resL, at2, eq_self, Nat.reduceEqDiff, reduceIte, Nat.reduceSub, Nat.reduceAdd, List.cons_append, List.nil_append]
        all_goals rfl
      · intro gh X; conv => lhs; simp only [slotsZ, zlAt, vs0, resL, at2, eq_self, Nat.reduceEqDiff, reduceIte, Nat.reduceSub, Nat.reduceAdd, List.cons_append, List.nil_append]
        all_goals rfl
      ·
        intro gh X K zq zc zq2 zc2 zb zv hK
        refine J.append1 u39 ze29 sz29 by29 rfl rfl rfl rfl (by omega) (.s .z) At.z (fun _ _ => At.z) rfl fun qo51 co51 => ?_
        refine EJ.front .z ?_
        refine EJ.front (.s .z) ?_
        refine J.nilK ?_
        exact hK qo51 co51 zq2 zc2 zb zv
      ·
        intro gh gh' h
        refine ⟨?_, ?_⟩ <;> (first | simp only [h 3 rfl, h 4 rfl] | rfl)
      apply GJ.st0 7 rfl
      · intro gh; conv => lhs; simp only [slotsZ, zlAt, vs0, resL, at2, eq_self, Nat.reduceEqDiff, reduceIte, Nat.reduceSub, Nat.reduceAdd, List.cons_append, List.nil_append]
        all_goals rfl
      · intro gh X; conv => lhs; simp only [slotsZ, zlAt, vs0, resL, at2, eq_self, Nat.reduceEqDiff, reduceIte, Nat.reduceSub, Nat.reduceAdd, List.cons_append, List.nil_append]
        all_goals rfl
      · intro gh X; conv => lhs; simp only [slotsZ, zlAt, vs0, resL, at2, eq_self, Nat.reduceEqDiff, reduceIte, Nat.reduceSub, Nat.reduceAdd, List.cons_append, List.nil_append]
        all_goals rfl
      ·
        intro gh X K zq zc zq2 zc2 zb zv hK
        refine J.p (PR.fldA u41 rfl sz39 rfl) rfl ?_
        refine J.nilK ?_
        exact hK zq zc zq2 zc2 zb zv
      ·
        intro gh gh' h
        first | simp only [h 3 rfl, h 4 rfl, h 5 rfl] | rfl
      apply GJ.sn1 8 rfl
      · intro gh; conv => lhs; simp only [slotsZ, zlAt, vs0, resL, at2, eq_self, Nat.reduceEqDiff, reduceIte, Nat.reduceSub, Nat.reduceAdd, List.cons_append, List.nil_append]
        all_goals rfl
      · intro gh X; conv => lhs; simp only [slotsZ, zlAt, vs0, resL, at2, eq_self, Nat.reduceEqDiff, reduceIte, Nat.reduceSub, Nat.reduceAdd, List.cons_append, List.nil_append]
        all_goals rfl
      · intro gh X; conv => lhs; simp only [slotsZ, zlAt, vs0, resL, at2, eq_self, Nat.reduceEqDiff, reduceIte, Nat.reduceSub, Nat.reduceAdd, List.cons_append, List.nil_append]
        all_goals rfl
      ·
        intro gh X K hK
        refine J.store rfl rfl rfl rfl sz39 (by simp [*]) At.z ?_
        refine J.nilK ?_
        exact hK
      ·
        intro gh gh' h
        first | simp only [h 3 rfl, h 4 rfl, h 5 rfl] | rfl
      apply GJ.close [0, 1, 2, 3, 4, 5, 6, 7] [0, 1, 2, 3, 4, 5, 6, 7, 8, 9, 10, 11, 14] foll0 rfl rfl rfl (by rfl)
      · intro gh; conv => lhs; simp only [slotsZ, zlAt, vs0, resL, at2, eq_self, Nat.reduceEqDiff, reduceIte, Nat.reduceSub, Nat.reduceAdd, List.cons_append, List.nil_append]
        all_goals rfl
      · intro gh; conv => lhs; simp only [slotsZ, zlAt, vs0, resL, at2, eq_self, Nat.reduceEqDiff, reduceIte, Nat.reduceSub, Nat.reduceAdd, List.cons_append, List.nil_append]
        all_goals rfl
      intro gh
      generalize (gh 3).c = co49
      generalize (gh 3).q = qo49
      generalize (gh 4).c = co50
      generalize (gh 4).q = qo50
      generalize (gh 5).c = co51
      generalize (gh 5).q = qo51
      clear gh
      refine EJ.inN ?_
      refine EJ.thenN (hK11 ?_)
      refine CJ.region ?_
      refine J.p (PR.add rfl rfl (by first | exact nw _ (by omega) | rfl)) rfl ?_
      refine J.p (PR.move rfl) rfl ?_
      refine J.nil ?_
      refine EJ.thenN ?_
      refine EJ.front (.s (.s (.s (.s (.s (.s (.s (.s .z)))))))) ?_
      refine EJ.front (.s (.s (.s (.s (.s (.s (.s .z))))))) ?_
      refine EJ.front (.s (.s (.s (.s (.s (.s (.s .z))))))) ?_
      refine EJ.front (.s (.s (.s (.s (.s (.s (.s .z))))))) ?_
      refine EJ.front (.s (.s (.s (.s (.s (.s (.s .z))))))) ?_
      refine EJ.front (.s (.s (.s (.s (.s (.s (.s .z))))))) ?_
      refine EJ.front (.s (.s (.s (.s (.s (.s (.s .z))))))) ?_
      refine EJ.front (.s (.s (.s (.s (.s (.s (.s (.s .z)))))))) ?_
      refine EJ.front (.s (.s (.s (.s (.s (.s (.s (.s .z)))))))) ?_
      refine EJ.fsSnoc (fs := af.take k) (List.length_take_of_le (by omega)) rfl ?_
      refine EJ.drop (.s .z) ?_
      refine EJ.drop (.s (.s (.s .z))) ?_
      refine EJ.front (.s (.s (.s (.s (.s .z))))) ?_
      refine EJ.front (.s (.s (.s .z))) ?_
      refine EJ.front (.s (.s (.s .z))) ?_
      refine EJ.front (.s (.s (.s .z))) ?_
      refine EJ.front (.s (.s (.s (.s (.s .z))))) ?_
      refine EJ.front (.s (.s (.s (.s (.s .z))))) ?_
      exact hAg0 (qo51, co51, setV vs k (qo49, co49), k + 1) (by show k + 1 ≤ af.length; omega) (by show af.length - (k + 1) < af.length - k; omega) 14 rfl rfl ⟨rfl, trivial⟩ rfl (by dsimp only; rw [take_fm (by omega), slicesC_set (List.length_take_of_le (by omega))]; rfl)
    ·
      refine CJ.exit ?_
      refine EJ.thenE ?_
      refine EJ.thenE ?_
      refine EJ.inE ?_
      refine EJ.thenN (hK7 ?_)
      refine CJ.seq fun _ hK13 _ => ?_
      refine CJ.seq fun _ hK14 _ => ?_
      refine CJ.region ?_
      refine J.p (PR.move rfl) rfl ?_
      refine J.p (PR.nilCheck rfl) rfl ?_
      refine J.p (PR.fldA u41 rfl sz39 rfl) rfl ?_
      refine J.p (PR.loadH (q := some ⟨bb, 0, none⟩) (k := 1) rfl pbf pl39) rfl ?_
      refine J.p (PR.lenSlice u39 rfl rfl) rfl ?_
      refine J.p (PR.move rfl) rfl ?_
      refine J.nil ?_
      refine EJ.thenN (hK14 ?_)
      refine CJ.block ?_
      refine CJ.loopU (σ := Option Addr × Nat × Vs × Nat) (fun ⟨q, c, vs, i⟩ => [(59, .int .i64 (i : Int))]) (fun ⟨q, c, vs, i⟩ => H) (fun ⟨q, c, vs, i⟩ => obj g34 (.cells [.slice qad ad.length cad, .slice qbd bd.length cbd].toArray 22 (0, 0)) :: own 2 1 qo35 (ad ++ bd).length co35 (intsC (ad ++ bd)) :: ownTs 88 vs (af ++ cpK ad.length bf i) :: own 29 1 q (af.length + i) c (slicesC vs (af ++ cpK ad.length bf i)) :: obj g7 (.cells [.slice qo35 (ad ++ bd).length co35, .slice q (af.length + i) c].toArray 41 (0, 0)) :: obj g4 (.cells [.slice none 0 0, .slice none 0 0].toArray 41 (0, 0)) :: L) (fun ⟨q, c, vs, i⟩ => i ≤ bf.length) (fun ⟨q, c, vs, i⟩ => bf.length - i) (q, c, vs, 0) (by show 0 ≤ bf.length; omega) ⟨rfl, trivial⟩ rfl (by dsimp only; rw [show k = af.length by omega]; simp [cpK]) ?_
      rintro ⟨q, c, vs, i⟩ hi _ hAg1
      have blk := bl i
      refine CJ.seq fun _ hK15 _ => ?_
      refine CJ.region ?_
      refine J.p (PR.lss rfl rfl) rfl ?_
      refine J.nil ?_
      refine EJ.thenN (hK15 ?_)
      refine CJ.seq fun _ hK16 _ => ?_
      refine CJ.condD rfl (fun hc60 => ?_) (fun hc60 => ?_)
      ·
        refine CJ.skip ?_
        refine EJ.thenN (hK16 ?_)
        refine CJ.seq fun _ hK17 _ => ?_
        refine CJ.block ?_
        refine CJ.seq fun _ hK18 _ => ?_
        refine CJ.region ?_
        refine J.p (PR.idx1 u39 sz29 rfl rfl rfl (by omega) hbf.sm) rfl ?_
        obtain ⟨qe62, ce62, he62, le62, Fe62⟩ := hbf i (by omega)
        refine J.p (PR.loadHagg (cs := [_]) rfl (one_cell he62) (hbf.sm (i := i) (by omega)) ag29) rfl ?_
        refine J.alloc ze29 rfl fun g11 => ?_
        refine J.storeAll rfl rfl (by first | exact bytesC_one _ | exact intsC_one _ | exact Term.c_one _ | simp [Value.oneCell']) (by simpa [*] using sz29) (by simp [*]) At.z ?_
        refine J.nil ?_
        refine EJ.thenN (hK18 ?_)
        refine CJ.openR (Rs := [_, _, _, _, _, _, _]) 9 [[], [0], [], [], [2, 3], [2, 3, 4], [0, 1, 2, 3, 4, 5], [0, 1, 2, 3, 4, 5, 6], [0, 1, 2, 3, 4, 5, 6, 7]] [[], [14], [9], [], [], [], [5], [], []] [[], [], [], [], [], [], [13], [], [14]] rfl rfl (by kernel_rfl) ?_
        apply GJ.st0 1 rfl
        · intro gh; conv => lhs; simp only [slotsZ, zlAt, vs0, resL, at2, eq_self, Nat.reduceEqDiff, reduceIte, Nat.reduceSub, Nat.reduceAdd, List.cons_append, List.nil_append]
          all_goals rfl
        · intro gh X; conv => lhs; simp only [slotsZ, zlAt, vs0, resL, at2, eq_self, Nat.reduceEqDiff, reduceIte, Nat.reduceSub, Nat.reduceAdd, List.cons_append, List.nil_append]
          all_goals rfl
        · intro gh X; conv => lhs; simp only [slotsZ, zlAt, vs0, resL, at2, eq_self, Nat.reduceEqDiff, reduceIte, Nat.reduceSub, Nat.reduceAdd, List.cons_append, List.nil_append]
          all_goals rfl
        ·
          intro gh X K zq zc zq2 zc2 zb zv hK
          refine J.p (PR.fldA u41 rfl sz39 rfl) rfl ?_
          refine J.nilK ?_
          exact hK zq zc zq2 zc2 zb zv
        ·
          intro gh gh' h
          rfl
        apply GJ.st0 2 rfl
        · intro gh; conv => lhs; simp only [slotsZ, zlAt, vs0, resL, at2, eq_self, Nat.reduceEqDiff, reduceIte, Nat.reduceSub, Nat.reduceAdd, List.cons_append, List.nil_append]
          all_goals rfl
        · intro gh X; conv => lhs; simp only [slotsZ, zlAt, vs0, resL, at2, eq_self, Nat.reduceEqDiff, reduceIte, Nat.reduceSub, Nat.reduceAdd, List.cons_append, List.nil_append]
          all_goals rfl
        · intro gh X; conv => lhs; simp only [slotsZ, zlAt, vs0, resL, at2, eq_self, Nat.reduceEqDiff, reduceIte, Nat.reduceSub, Nat.reduceAdd, List.cons_append, List.nil_append]
          all_goals rfl
        ·
          intro gh X K zq zc zq2 zc2 zb zv hK
          refine J.p (PR.load rfl At.z rfl pl39) rfl ?_
          refine J.nilK ?_
          exact hK zq zc zq2 zc2 zb zv
        ·
          intro gh gh' h
          rfl
        apply GJ.st0 3 rfl
        · intro gh; conv => lhs; simp only [slotsZ, zlAt, vs0, resL, at2, eq_self, Nat.reduceEqDiff, reduceIte, Nat.reduceSub, Nat.reduceAdd, List.cons_append, List.nil_append]
          all_goals rfl
        · intro gh X; conv => lhs; simp only [slotsZ, zlAt, vs0, resL, at2, eq_self, Nat.reduceEqDiff, reduceIte, Nat.reduceSub, Nat.reduceAdd, List.cons_append, List.nil_append]
          all_goals rfl
        · intro gh X; conv => lhs; simp only [slotsZ, zlAt, vs0, resL, at2, eq_self, Nat.reduceEqDiff, reduceIte, Nat.reduceSub, Nat.reduceAdd, List.cons_append, List.nil_append]
          all_goals rfl
        ·
          intro gh X K zq zc zq2 zc2 zb zv hK
          refine J.p (PR.loadAll rfl At.z (by simpa [*] using ag29)) rfl ?_
          refine J.nilK ?_
          exact hK zq zc zq2 zc2 zb zv
        ·
          intro gh gh' h
          rfl
        apply GJ.st0 4 rfl
        · intro gh; conv => lhs; simp only [slotsZ, zlAt, vs0, resL, at2, eq_self, Nat.reduceEqDiff, reduceIte, Nat.reduceSub, Nat.reduceAdd, List.cons_append, List.nil_append]
          all_goals rfl
        · intro gh X; conv => lhs; simp only [slotsZ, zlAt, vs0, resL, at2, eq_self, Nat.reduceEqDiff, reduceIte, Nat.reduceSub, Nat.reduceAdd, List.cons_append, List.nil_append]
          all_goals rfl
        · intro gh X; conv => lhs; simp only [slotsZ, zlAt, vs0, resL, at2, eq_self, Nat.reduceEqDiff, reduceIte, Nat.reduceSub, Nat.reduceAdd, List.cons_append, List.nil_append]
          all_goals rfl
        ·
          intro gh X K zq zc zq2 zc2 zb zv hK
          refine J.p (PR.move rfl) rfl ?_
          refine J.nilK ?_
          exact hK zq zc zq2 zc2 zb zv
        ·
          intro gh gh' h
          rfl
        apply GJ.st1 5 rfl
        · intro gh; conv => lhs; simp only [slotsZ, zlAt, vs0, resL, at2, eq_self, Nat.reduceEqDiff, reduceIte, Nat.reduceSub, Nat.reduceAdd, List.cons_append, List.nil_append]
          all_goals rfl
        · intro gh X; conv => lhs; simp only [slotsZ, zlAt, vs0, resL, at2, eq_self, Nat.reduceEqDiff, reduceIte, Nat.reduceSub, Nat.reduceAdd, List.cons_append, List.nil_append]
          all_goals rfl
        · intro gh X; conv => lhs; simp only [slotsZ, zlAt, vs0, resL, at2, eq_self, Nat.reduceEqDiff, reduceIte, Nat.reduceSub, Nat.reduceAdd, List.cons_append, List.nil_append]
          all_goals rfl
        ·
          intro gh X K zq zc zq2 zc2 zb zv hK
          refine J.call fn118 rfl rfl fun w hH => (shifted_c (b := ad.length) Fe62 (by omega) (blk (by omega)) hH).mono ?_
          rintro _ w ⟨qo67, co67, rfl, hH⟩
          refine ⟨_, rfl, fun a hF => J.of hF hH ?_⟩
          refine J.nilK ?_
          exact hK qo67 co67 zq2 zc2 zb zv
        ·
          intro gh gh' h
          refine ⟨?_, ?_⟩ <;> rfl
        apply GJ.st1 6 rfl
        · intro gh; conv => lhs; simp only [slotsZ, zlAt, vs0, resL, at2, eq_self, Nat.reduceEqDiff, reduceIte, Nat.reduceSub, Nat.reduceAdd, List.cons_append, List.nil_append]
          all_goals rfl
        · intro gh X; conv => lhs; simp only [slotsZ, zlAt, vs0, resL, at2, eq_self, Nat.reduceEqDiff, reduceIte, Nat.reduceSub, Nat.reduceAdd, List.cons_append, List.nil_append]
          all_goals rfl
        · intro gh X; conv => lhs; simp only [slotsZ, zlAt, vs0, resL, at2, eq_self, Nat.reduceEqDiff, reduceIte, Nat.reduceSub, Nat.reduceAdd, List.cons_append, List.nil_append]
          all_goals rfl
        ·
          intro gh X K zq zc zq2 zc2 zb zv hK
          refine J.mk (MK.lit1S u39 ze29 sz29 rfl rfl) rfl fun qo68 co68 => ?_
          refine J.nilK ?_
          exact hK qo68 co68 zq2 zc2 zb zv
        ·
          intro gh gh' h
          refine ⟨?_, ?_⟩ <;> (first | simp only [h 4 rfl] | rfl)
        apply GJ.st1 7 rfl
        · intro gh; conv => lhs; simp only [slotsZ, zlAt, vs0, resL, at2, eq_self, Nat.reduceEqDiff, reduceIte, Nat.reduceSub, Nat.reduceAdd, List.cons_append, List.nil_append]
          all_goals rfl
        · intro gh X; conv => lhs; simp only [slotsZ, zlAt, vs0, resL, at2, eq_self, Nat.reduceEqDiff, reduceIte, Nat.reduceSub, Nat.reduceAdd, List.cons_append, List.nil_append]
          all_goals rfl
        · intro gh X; conv => lhs; simp only [slotsZ, zlAt, vs0, resL, at2, eq_self, Nat.reduceEqDiff, reduceIte, Nat.reduceSub, Nat.reduceAdd, List.cons_append, List.nil_append]
          all_goals rfl
        ·
          intro gh X K zq zc zq2 zc2 zb zv hK
          refine J.append1 u39 ze29 sz29 by29 rfl rfl rfl rfl (by omega) (.s .z) At.z (fun _ _ => At.z) rfl fun qo69 co69 => ?_
          refine EJ.front .z ?_
          refine EJ.front (.s .z) ?_
          refine J.nilK ?_
          exact hK qo69 co69 zq2 zc2 zb zv
        ·
          intro gh gh' h
          refine ⟨?_, ?_⟩ <;> (first | simp only [h 4 rfl, h 5 rfl] | rfl)
        apply GJ.st0 8 rfl
        · intro gh; conv => lhs; simp only [slotsZ, zlAt, vs0, resL, at2, eq_self, Nat.reduceEqDiff, reduceIte, Nat.reduceSub, Nat.reduceAdd, List.cons_append, List.nil_append]
          all_goals rfl
        · intro gh X; conv => lhs; simp only [slotsZ, zlAt, vs0, resL, at2, eq_self, Nat.reduceEqDiff, reduceIte, Nat.reduceSub, Nat.reduceAdd, List.cons_append, List.nil_append]
          all_goals rfl
        · intro gh X; conv => lhs; simp only [slotsZ, zlAt, vs0, resL, at2, eq_self, Nat.reduceEqDiff, reduceIte, Nat.reduceSub, Nat.reduceAdd, List.cons_append, List.nil_append]
          all_goals rfl
        ·
          intro gh X K zq zc zq2 zc2 zb zv hK
          refine J.p (PR.fldA u41 rfl sz39 rfl) rfl ?_
          refine J.nilK ?_
          exact hK zq zc zq2 zc2 zb zv
        ·
          intro gh gh' h
          first | simp only [h 4 rfl, h 5 rfl, h 6 rfl] | rfl
        apply GJ.sn1 9 rfl
        · intro gh; conv => lhs; simp only [slotsZ, zlAt, vs0, resL, at2, eq_self, Nat.reduceEqDiff, reduceIte, Nat.reduceSub, Nat.reduceAdd, List.cons_append, List.nil_append]
          all_goals rfl
        · intro gh X; conv => lhs; simp only [slotsZ, zlAt, vs0, resL, at2, eq_self, Nat.reduceEqDiff, reduceIte, Nat.reduceSub, Nat.reduceAdd, List.cons_append, List.nil_append]
          all_goals rfl
        · intro gh X; conv => lhs; simp only [slotsZ, zlAt, vs0, resL, at2, eq_self, Nat.reduceEqDiff, reduceIte, Nat.reduceSub, Nat.reduceAdd, List.cons_append, List.nil_append]
          all_goals rfl
        ·
          intro gh X K hK
          refine J.store rfl rfl rfl rfl sz39 (by simp [*]) At.z ?_
          refine J.nilK ?_
          exact hK
        ·
          intro gh gh' h
          first | simp only [h 4 rfl, h 5 rfl, h 6 rfl] | rfl
        apply GJ.close [0, 1, 2, 3, 4, 5, 6, 7, 8] [0, 1, 2, 3, 4, 5, 6, 7, 8, 9, 10, 11, 12, 15] foll0 rfl rfl rfl (by rfl)
        · intro gh; conv => lhs; simp only [slotsZ, zlAt, vs0, resL, at2, eq_self, Nat.reduceEqDiff, reduceIte, Nat.reduceSub, Nat.reduceAdd, List.cons_append, List.nil_append]
          all_goals rfl
        · intro gh; conv => lhs; simp only [slotsZ, zlAt, vs0, resL, at2, eq_self, Nat.reduceEqDiff, reduceIte, Nat.reduceSub, Nat.reduceAdd, List.cons_append, List.nil_append]
          all_goals rfl
        intro gh
        generalize (gh 4).c = co67
        generalize (gh 4).q = qo67
        generalize (gh 5).c = co68
        generalize (gh 5).q = qo68
        generalize (gh 6).c = co69
        generalize (gh 6).q = qo69
        clear gh
        refine EJ.inN ?_
        refine EJ.thenN (hK17 ?_)
        refine CJ.region ?_
        refine J.p (PR.add rfl rfl (by first | exact nw _ (by omega) | rfl)) rfl ?_
        refine J.p (PR.move rfl) rfl ?_
        refine J.nil ?_
        refine EJ.thenN ?_
        refine EJ.front (.s (.s (.s (.s (.s (.s (.s (.s .z)))))))) ?_
        refine EJ.front (.s (.s (.s (.s (.s (.s (.s .z))))))) ?_
        refine EJ.front (.s (.s (.s (.s (.s (.s (.s .z))))))) ?_
        refine EJ.front (.s (.s (.s (.s (.s (.s (.s .z))))))) ?_
        refine EJ.front (.s (.s (.s (.s (.s (.s (.s .z))))))) ?_
        refine EJ.front (.s (.s (.s (.s (.s (.s (.s .z))))))) ?_
        refine EJ.front (.s (.s (.s (.s (.s (.s (.s .z))))))) ?_
        refine EJ.front (.s (.s (.s (.s (.s (.s (.s (.s .z)))))))) ?_
        refine EJ.front (.s (.s (.s (.s (.s (.s (.s (.s .z)))))))) ?_
        refine EJ.fsSnoc (fs := af ++ cpK ad.length bf i) (cp_len (by omega)) rfl ?_
        refine EJ.drop (.s .z) ?_
        refine EJ.drop (.s (.s (.s .z))) ?_
        refine EJ.front (.s (.s (.s (.s (.s .z))))) ?_
        refine EJ.front (.s (.s (.s .z))) ?_
        refine EJ.front (.s (.s (.s .z))) ?_
        refine EJ.front (.s (.s (.s .z))) ?_
        refine EJ.front (.s (.s (.s (.s (.s .z))))) ?_
        refine EJ.front (.s (.s (.s (.s (.s .z))))) ?_
        exact hAg1 (qo69, co69, setV vs (af.length + i) (qo67, co67), i + 1) (by show i + 1 ≤ bf.length; omega) (by show bf.length - (i + 1) < bf.length - i; omega) 15 rfl rfl ⟨rfl, trivial⟩ rfl (by dsimp only; rw [cp_snoc (by omega), slicesC_set (cp_len (by omega))]; rfl)
      ·
        refine CJ.exit ?_
        refine EJ.thenE ?_
        refine EJ.thenE ?_
        refine EJ.inE ?_
        refine EJ.thenN (hK13 ?_)
        refine CJ.seq fun _ hK19 _ => ?_
        refine CJ.region ?_
        refine J.p (PR.loadAll rfl (.s (.s (.s (.s .z)))) (by simpa [*] using ag41)) rfl ?_
        refine J.storeAll rfl rfl (by first | exact bytesC_one _ | exact intsC_one _ | exact Term.c_one _ | simp [Value.oneCell']) (by simpa [*] using sz41) (by simp [*]) (.s (.s (.s (.s (.s .z))))) ?_
        refine J.p (PR.assign rfl) rfl ?_
        refine J.nil ?_
        refine EJ.thenN (hK19 ?_)
        refine CJ.ret ?_
        refine EJ.ret2 rfl (Res.agg rfl (.s (.s (.s (.s (.s .z))))) (by simpa [*] using ag41)) (Res.tmp rfl) fun w hH => ?_
        replace hH := hH.sublist (.cons _ (.cons_cons _ (.cons_cons _ (.cons_cons _ (.cons _ (.cons _ (List.Sublist.refl _)))))))
        obtain ⟨e1, e2, e3⟩ := po_yes (af := af) (bf := bf) (show ad.length + bd.length ≤ 8 by omega)
        have f2 : cpK ad.length bf i = cpA ad.length bf := by rw [show i = bf.length by omega]; exact cpK_end _ _
        have f3 : (af ++ cpA ad.length bf).length = af.length + i := by rw [List.length_append, cpA_len]; omega
        rw [f2] at hH
        rw [e1, e2, e3]
        exact ⟨_, _, q, c, vs, by rw [f3], by unfold ownFs; rw [f3]; exact ((((hH.front (.s .z)).front (.s (.s .z))).star).front (.s .z))⟩
end Go.Proofs.Ytpojpokldncglaa.G
namespace Go.Proofs.Ytpojpokldncglaa.G
open Go Go.RowKit
namespace Og
theorem u22 : Try.prog.underlying 22 = some (TypeDesc.slice 2) := by kernel_rfl
theorem u41 : Try.prog.underlying 41 = some (TypeDesc.struct #[{ name := "Degrees", type := 22, offset := 0, embedded := false, tag := "", pkgPath := "", byteOffset := 0 }, { name := "Images", type := 39, offset := 1, embedded := false, tag := "", pkgPath := "", byteOffset := 24 }]) := by kernel_rfl
theorem sz2 : Size Try.prog 2 1 := by unfold Size; kernel_rfl
theorem sz41 : Size Try.prog 41 2 := by unfold Size; kernel_rfl
theorem ze2 : Zero Try.prog 2 [.int .i64 0] := by unfold Zero; kernel_rfl
theorem ze41 : Zero Try.prog 41 [.slice none 0 0, .slice none 0 0] := by unfold Zero; kernel_rfl
theorem bz41 : ∀ w, (Instr.build 41 #[]).run Try.prog w = .ok (.agg [.slice none 0 0, .slice none 0 0].toArray) w := fun _ => by kernel_rfl
theorem ag41 : Agg Try.prog 41 2 := ⟨_, u41, rfl, by kernel_rfl⟩
theorem fn123 : Fn Try.prog 123 := ⟨_, Try.func123, by kernel_rfl, rfl⟩
theorem fn74 : Fn Try.prog 74 := ⟨_, Try.func74, by kernel_rfl, rfl⟩
theorem fn99 : Fn Try.prog 99 := ⟨_, Try.func99, by kernel_rfl, rfl⟩
end Og
open Og
theorem pr_first {ad : List Int} {af : List (List Term)} {bd : List Int} {bf : List (List Term)} : firstOf [codeA ad af [], codeA bd bf []] = if prOk ad af bd bf then 0 else 1 := by
  rw [codeA_nil, codeA_nil]
  unfold algC prOk
  cases isAlg ad af <;> cases isAlg bd bf <;> rfl
theorem one_ne {b : Bool} (h : (if b then 0 else 1 : Int) ≠ 0) : b = false := by cases b <;> simp at h ⊢
theorem one_eq {b : Bool} (h : ¬ (if b then 0 else 1 : Int) ≠ 0) : b = true := by cases b <;> simp at h ⊢
set_option maxHeartbeats 2000000 in
set_option maxRecDepth 10000 in
theorem Product_c {B : World} {H0 H : HP} {L : List SA} {w : World} {qad qaf : Option Addr} {cad caf : Nat} {ad : List Int} {af : List (List Term)} {qbd qbf : Option Addr} {cbd cbf : Nat} {bd : List Int} {bf : List (List Term)}  (had : Ints H qad ad) (haf : Forms H qaf af) (hbd : Ints H qbd bd) (hbf : Forms H qbf bf) (hn8 : ad.length ≤ 1048576) (hn9 : af.length ≤ 1048576) (hl9 : ∀ i, i < af.length → (fm af i).length ≤ 1048576) (bn8 : bd.length ≤ 1048576) (bn9 : bf.length ≤ 1048576) (bl9 : ∀ i, i < bf.length → (fm bf i).length ≤ 1048576) (hca : ad.length ≤ cad) (hcb : bd.length ≤ cbd) (hH : Hp B H0 H L w) :
    Calls Try.prog 63 [.agg [.slice qad ad.length cad, .slice qaf af.length caf].toArray, .agg [.slice qbd bd.length cbd, .slice qbf bf.length cbf].toArray].toArray w fun e w' => ∃ qd cd qf cf vs, e = .returned (.tuple #[.agg [.slice qd (prD ad af bd bf).length cd, .slice qf (prF ad af bd bf).length cf].toArray, .int .i64 (prC ad af bd bf)]) ∧ Hp B H0 H (own 2 1 qd (prD ad af bd bf).length cd (intsC (prD ad af bd bf)) :: ownFs 29 88 qf cf vs (prF ad af bd bf) :: L) w' := by
  refine CJ.enter Try.func63 rfl 18 rfl rfl [(0, .agg [.slice qad ad.length cad, .slice qaf af.length caf].toArray), (1, .agg [.slice qbd bd.length cbd, .slice qbf bf.length cbf].toArray)] rfl hH ?_
  have hw0 := hH.old
  have hw1 := hH.le
  clear hH
  refine CJ.seq fun _ hK1 _ => ?_
  refine CJ.region ?_
  refine J.box rfl rfl rfl fun g2 => ?_
  refine J.freezeRow .z fun H2 hle2 hc2 => ?_
  replace had := had.le hle2
  replace haf := haf.le hle2
  replace hbd := hbd.le hle2
  replace hbf := hbf.le hle2
  have pad : CellAt H2 g2 0 (.slice qad ad.length cad) := hc2 0 _ rfl
  have paf : CellAt H2 g2 1 (.slice qaf af.length caf) := hc2 1 _ rfl
  refine J.box rfl rfl rfl fun g3 => ?_
  refine J.freezeRow .z fun H3 hle3 hc3 => ?_
  replace had := had.le hle3
  replace haf := haf.le hle3
  replace hbd := hbd.le hle3
  replace hbf := hbf.le hle3
  replace pad := pad.le hle3
  replace paf := paf.le hle3
  have pbd : CellAt H3 g3 0 (.slice qbd bd.length cbd) := hc3 0 _ rfl
  have pbf : CellAt H3 g3 1 (.slice qbf bf.length cbf) := hc3 1 _ rfl
  refine J.alloc ze41 rfl fun g4 => ?_
  refine J.p (PR.assign rfl) rfl ?_
  refine J.nil ?_
  refine EJ.thenN (hK1 ?_)
  refine CJ.seq fun _ hK2 _ => ?_
  refine CJ.seq fun _ hK3 _ => ?_
  refine CJ.region ?_
  refine J.call fn99 rfl rfl fun w hH => (algebraCode_c pad paf had haf (forms_nil H3) hn8 hn9 hl9 (by simp) (fun i hi => by simp at hi) hH).mono ?_
  rintro _ w ⟨rfl, hH⟩
  refine ⟨_, rfl, fun a hF => J.of hF hH ?_⟩
  refine J.call fn99 rfl rfl fun w hH => (algebraCode_c pbd pbf hbd hbf (forms_nil H3) bn8 bn9 bl9 (by simp) (fun i hi => by simp at hi) hH).mono ?_
  rintro _ w ⟨rfl, hH⟩
  refine ⟨_, rfl, fun a hF => J.of hF hH ?_⟩
  refine J.litI2 u22 ze2 sz2 rfl rfl rfl fun g9 => ?_
  refine J.call fn74 rfl rfl fun w hH => hH.lend .z fun Hl1 hle1 hA1 hB1 hH => (first_c (own_ints hA1) (by simp) hH).mono ?_
  rintro _ w ⟨rfl, hH⟩
  replace hH := hB1 _ _ hH
  refine ⟨_, rfl, fun a hF => J.of hF hH ?_⟩
  refine J.p (PR.assign rfl) rfl ?_
  refine J.nil ?_
  refine EJ.thenN (hK3 ?_)
  refine CJ.seq fun _ hK4 _ => ?_
  refine CJ.region ?_
  refine J.p (PR.move rfl) rfl ?_
  refine J.p (PR.neq rfl rfl) rfl ?_
  refine J.nil ?_
  refine EJ.thenN (hK4 ?_)
  refine CJ.condD rfl (fun h12 => ?_) (fun h12 => ?_)
  ·
    rw [pr_first] at h12 ⊢
    have hno := one_ne h12
    refine CJ.seq fun _ hK5 _ => ?_
    refine CJ.region ?_
    refine J.p (PR.buildZ bz41) rfl ?_
    refine J.p (PR.move rfl) rfl ?_
    refine J.storeAll rfl rfl (by first | exact bytesC_one _ | exact intsC_one _ | exact Term.c_one _ | simp [Value.oneCell']) (by simpa [*] using sz41) (by simp [*]) (.s .z) ?_
    refine J.p (PR.assign rfl) rfl ?_
    refine J.nil ?_
    refine EJ.thenN (hK5 ?_)
    refine CJ.ret ?_
    refine EJ.thenR ?_
    refine EJ.ret2 rfl (Res.agg rfl (.s .z) (by simpa [*] using ag41)) (Res.tmp rfl) fun w hH => ?_
    replace hH := hH.sublist (.cons _ (.cons _ (List.Sublist.refl _)))
    rw [show (if prOk ad af bd bf then 0 else 1 : Int) = 1 by rw [hno]; rfl]
    obtain ⟨e1, e2, e3⟩ := pr_bad hno
    rw [e1, e2, e3]
    exact ⟨none, 0, none, 0, nilVs, rfl, ((hH.ownFsNil 29 88).own0 2 1).weaken (hle2.trans hle3) hw0 hw1⟩
  ·
    rw [pr_first] at h12
    have hPo := one_eq h12
    have hPa := (Bool.and_eq_true_iff.1 hPo).1
    have hPb := (Bool.and_eq_true_iff.1 hPo).2
    have hPl := isAlg_len hPa
    have hPm := isAlg_len hPb
    refine CJ.skip ?_
    refine EJ.thenN (hK2 ?_)
    refine CJ.seq fun _ hK6 _ => ?_
    refine CJ.region ?_
    refine J.call fn123 rfl rfl fun w hH => (productOf_c pad paf had haf pbd pbf hbd hbf (by omega) (by omega) (by omega) (by omega) hl9 bl9 hca hcb hH).mono ?_
    rintro _ w ⟨qdo15, cdo15, qfo15, cfo15, vso15, rfl, hH⟩
    refine ⟨_, rfl, fun a hF => J.of hF hH ?_⟩
    refine J.p (PR.extract rfl rfl) rfl ?_
    refine J.p (PR.extract rfl rfl) rfl ?_
    refine J.storeAll rfl rfl (by first | exact bytesC_one _ | exact intsC_one _ | exact Term.c_one _ | simp [Value.oneCell']) (by simpa [*] using sz41) (by simp [*]) (.s (.s (.s .z))) ?_
    refine J.p (PR.assign rfl) rfl ?_
    refine J.nil ?_
    refine EJ.thenN (hK6 ?_)
    refine CJ.ret ?_
    refine EJ.ret2 rfl (Res.agg rfl (.s (.s (.s .z))) (by simpa [*] using ag41)) (Res.tmp rfl) fun w hH => ?_
    replace hH := hH.sublist (.cons_cons _ (.cons_cons _ (.cons _ (.cons _ (List.Sublist.refl _)))))
    obtain ⟨e1, e2, e3⟩ := po_pr hPo
    rw [e1, e2, e3]
    exact ⟨_, _, _, _, _, rfl, hH.weaken (hle2.trans hle3) hw0 hw1⟩
end Go.Proofs.Ytpojpokldncglaa.G
