/- The row: the law answers true whatever the input, and the input reads as it did. No condition. -/
import Derived.Test.YtpojpokldncglaaRows
import Derived.Test.YtpojpokldncglaaProg
import Derived.WalkKit
import Derived.KernelRfl
import Derived.JoinedOf
import Derived.Maps.AppendAt
import Derived.Still
import Derived.ProofKit
import Derived.OpenShut
import Derived.StillTail
import Derived.Deep.Upon
import Derived.WalkSpells
import Derived.Maps.Range
import Derived.DeepKeys4
import Derived.ChangeOld
import Derived.Below
import Derived.SizedLaws
import Derived.Test.YtpojpokldncglaaPWita
set_option linter.unusedVariables false
set_option linter.unusedSimpArgs false
namespace Go.Proofs.Ytpojpokldncglaa.G
open Go Go.RowKit
namespace Oi
theorem u22 : Try.prog.underlying 22 = some (TypeDesc.slice 2) := by kernel_rfl
theorem u29 : Try.prog.underlying 29 = some (TypeDesc.struct #[{ name := "Terms", type := 27, offset := 0, embedded := false, tag := "", pkgPath := "", byteOffset := 0 }]) := by kernel_rfl
theorem u39 : Try.prog.underlying 39 = some (TypeDesc.slice 29) := by kernel_rfl
theorem u41 : Try.prog.underlying 41 = some (TypeDesc.struct #[{ name := "Degrees", type := 22, offset := 0, embedded := false, tag := "", pkgPath := "", byteOffset := 0 }, { name := "Images", type := 39, offset := 1, embedded := false, tag := "", pkgPath := "", byteOffset := 24 }]) := by kernel_rfl
theorem sz2 : Size Try.prog 2 1 := by unfold Size; kernel_rfl
theorem sz22 : Size Try.prog 22 1 := by unfold Size; kernel_rfl
theorem sz29 : Size Try.prog 29 1 := by unfold Size; kernel_rfl
theorem sz39 : Size Try.prog 39 1 := by unfold Size; kernel_rfl
theorem sz41 : Size Try.prog 41 2 := by unfold Size; kernel_rfl
theorem by2 : Bytes Try.prog 2 8 := by unfold Bytes; kernel_rfl
theorem by29 : Bytes Try.prog 29 24 := by unfold Bytes; kernel_rfl
theorem ze2 : Zero Try.prog 2 [.int .i64 0] := by unfold Zero; kernel_rfl
theorem ze29 : Zero Try.prog 29 [.slice none 0 0] := by unfold Zero; kernel_rfl
theorem ze41 : Zero Try.prog 41 [.slice none 0 0, .slice none 0 0] := by unfold Zero; kernel_rfl
theorem bz41 : ∀ w, (Instr.build 41 #[]).run Try.prog w = .ok (.agg [.slice none 0 0, .slice none 0 0].toArray) w := fun _ => by kernel_rfl
theorem pl22 : Plain Try.prog 22 := ⟨_, u22, rfl⟩
theorem pl39 : Plain Try.prog 39 := ⟨_, u39, rfl⟩
theorem ag29 : Agg Try.prog 29 1 := ⟨_, u29, rfl, by kernel_rfl⟩
theorem ag41 : Agg Try.prog 41 2 := ⟨_, u41, rfl, by kernel_rfl⟩
theorem fn117 : Fn Try.prog 117 := ⟨_, Try.func117, by kernel_rfl, rfl⟩
theorem fn118 : Fn Try.prog 118 := ⟨_, Try.func118, by kernel_rfl, rfl⟩
theorem fn160 : Fn Try.prog 160 := ⟨_, Try.func160, by kernel_rfl, rfl⟩
theorem bd41_0 : ∀ (q0 : Option Addr) (m0 c0 : Nat) w, (Instr.build 41 #[(0, .slice q0 m0 c0)]).run Try.prog w = .ok (.agg [.slice q0 m0 c0, .slice none 0 0].toArray) w := fun q0 m0 c0 _ => by kernel_rfl
theorem foll0 : Try.prog.follows .mixedOrders = true := by kernel_rfl
end Oi
open Oi
def vsH (H : HP) (q : Option Addr) : Vs := fun i => match cellO H q i with
  | some (.slice q' _ c') => (q', c')
  | _ => (none, 0)
theorem vsH_at {H : HP} {q : Option Addr} {fs : List (List Term)} (h : Forms H q fs) {i : Nat} (hi : i < fs.length) : cellO H q i = some (.slice (vsH H q i).1 (fm fs i).length (vsH H q i).2) ∧ (fm fs i).length ≤ (vsH H q i).2 ∧ Terms H (vsH H q i).1 (fm fs i) := by
  obtain ⟨q', c', h1, h2, h3⟩ := h i hi
  have e : vsH H q i = (q', c') := by unfold vsH; rw [h1]
  rw [e]
  exact ⟨h1, h2, h3⟩
theorem slicesC_H {H : HP} {q : Option Addr} {fs : List (List Term)} (h : Forms H q fs) : ∀ j v, (slicesC (vsH H q) fs)[j]? = some v → cellO H q j = some v := fun j v hj => by
  rcases Nat.lt_or_ge j fs.length with h1 | h1
  · rw [slicesC_get h1] at hj
    rw [(vsH_at h h1).1]
    exact hj
  · rw [List.getElem?_eq_none (by rw [slicesC_length]; exact h1)] at hj
    cases hj
theorem slicesC_one : ∀ (vs : Vs) (fs : List (List Term)), ∀ u ∈ slicesC vs fs, u.oneCell' = true
  | _, [], _, h => by simp [slicesC] at h
  | vs, f :: fs, u, h => by
    simp only [slicesC, List.mem_cons] at h
    rcases h with rfl | h
    · rfl
    · exact slicesC_one vs.tl fs u h
theorem forms_more {H H' : HP} {q q' qt : Option Addr} {e : TypeId} {c ct : Nat} {fs : List (List Term)} {ts : List Term} (h : Forms H q fs) (hle : Le H H') (ht : Terms H' qt ts) (hc : ts.length ≤ ct) (hh : (own e 1 q' (fs.length + 1) c (slicesC (vsH H q) fs ++ [.slice qt ts.length ct])).holds H') : Forms H' q' (fs ++ [ts]) := fun i hi => by
  have hr := own_reads hh
  rcases Nat.lt_or_ge i fs.length with h1 | h1
  · have e1 : fm (fs ++ [ts]) i = fm fs i := by
      unfold fm
      rw [List.getD_eq_getElem?_getD, List.getD_eq_getElem?_getD, List.getElem?_append_left h1]
    rw [e1]
    obtain ⟨a1, a2, a3⟩ := vsH_at h h1
    exact ⟨_, _, hr i _ (by rw [List.getElem?_append_left (by rw [slicesC_length]; exact h1), slicesC_get h1]), a2, a3.le hle⟩
  · have h2 : i = fs.length := by simp at hi; omega
    subst h2
    have e1 : fm (fs ++ [ts]) fs.length = ts := by
      unfold fm
      rw [List.getD_eq_getElem?_getD, List.getElem?_append_right (by omega)]
      simp
    rw [e1]
    exact ⟨qt, ct, hr fs.length _ (by rw [List.getElem?_append_right (by rw [slicesC_length]; omega), slicesC_length, Nat.sub_self]; rfl), hc, ht⟩
theorem none_forms {H : HP} {q : Option Addr} {fs : List (List Term)} {c : Nat} (h : Forms H q fs) (hb : q.isNone = true) : fs = [] := by
  have hq := Option.isNone_iff_eq_none.1 hb
  subst hq
  cases fs with
  | nil => rfl
  | cons f fs =>
    have := h.sm (i := 0) (by simp)
    simp at this
set_option maxRecDepth 10000 in
theorem CloneF_c {B : World} {H0 H : HP} {L : List SA} {w : World} {qfs : Option Addr} {cfs : Nat} {fs : List (List Term)}  (hfs : Forms H qfs fs) (hn : fs.length ≤ 1048576) (hH : Hp B H0 H L w) :
    Calls Try.prog 160 [.slice qfs fs.length cfs].toArray w fun e w' => ∃ q c, e = .returned (.slice q fs.length c) ∧ Hp B H0 H (own 29 1 q fs.length c (slicesC (vsH H qfs) fs) :: L) w' := by
  refine CJ.enter Try.func160 rfl 8 rfl rfl [(0, .slice qfs fs.length cfs)] rfl hH ?_
  clear hH
  refine CJ.seq fun _ hK1 _ => ?_
  refine CJ.region ?_
  refine J.p (PR.assign rfl) rfl ?_
  refine J.nil ?_
  refine EJ.thenN (hK1 ?_)
  refine CJ.seq fun _ hK2 _ => ?_
  refine CJ.seq fun _ hK3 _ => ?_
  refine CJ.region ?_
  refine J.p (PR.move rfl) rfl ?_
  refine J.p (PR.eqlNil u39 rfl rfl) rfl ?_
  refine J.nil ?_
  refine EJ.thenN (hK3 ?_)
  refine CJ.cond rfl (fun h4 => ?_) (fun h4 => ?_)
  ·
    refine CJ.seq fun _ hK4 _ => ?_
    refine CJ.region ?_
    refine J.p (PR.assign rfl) rfl ?_
    refine J.nil ?_
    refine EJ.thenN (hK4 ?_)
    refine CJ.ret ?_
    refine EJ.thenR ?_
    refine EJ.ret1 rfl (Res.tmp rfl) fun w hH => ?_
    replace hH := hH.sublist (List.Sublist.refl _)
    have e1 := none_forms (c := cfs) hfs h4
    subst e1
    exact ⟨none, 0, rfl, hH.own0 29 1⟩
  ·
    refine CJ.skip ?_
    refine EJ.thenN (hK2 ?_)
    refine CJ.seq fun _ hK5 _ => ?_
    refine CJ.region ?_
    refine J.mk (MK.lit0 u39 sz29) rfl fun qo5 co5 => ?_
    refine J.p (PR.move rfl) rfl ?_
    refine J.appendH (z := [.slice none 0 0]) (ds := slicesC (vsH H qfs) fs) u39 ze29 sz29 by29 rfl rfl rfl (by simp) (slicesC_H hfs) (slicesC_one _ _) (by omega) (by simp only [maxLen]; omega) At.z (fun _ _ => At.z) rfl fun qo7 co7 => ?_
    refine J.p (PR.assign rfl) rfl ?_
    refine J.nil ?_
    refine EJ.thenN (hK5 ?_)
    refine CJ.ret ?_
    refine EJ.ret1 rfl (Res.tmp rfl) fun w hH => ?_
    replace hH := hH.sublist (.cons_cons _ (List.Sublist.refl _))
    exact ⟨qo7, co7, by rw [Nat.zero_add], by rw [Nat.zero_add] at hH; exact hH⟩
def wxD (ds : List Int) (n : Int) : List Int := if ds.length = 8 then [] else ds ++ [n]
def wxF (ds : List Int) (fs : List (List Term)) (ts : List Term) : List (List Term) := if ds.length = 8 then [] else fs ++ [ts]
def wxC (ds : List Int) : Int := if ds.length = 8 then 3 else 0
theorem wx_yes {ds : List Int} {fs : List (List Term)} {n : Int} {ts : List Term} (h : ds.length = 8) : wxD ds n = [] ∧ wxF ds fs ts = [] ∧ wxC ds = 3 := by unfold wxD wxF wxC; rw [if_pos h, if_pos h, if_pos h]; exact ⟨rfl, rfl, rfl⟩
theorem wx_no {ds : List Int} {fs : List (List Term)} {n : Int} {ts : List Term} (h : ¬ ds.length = 8) : wxD ds n = ds ++ [n] ∧ wxF ds fs ts = fs ++ [ts] ∧ wxC ds = 0 := by unfold wxD wxF wxC; rw [if_neg h, if_neg h, if_neg h]; exact ⟨rfl, rfl, rfl⟩
theorem cat_fm {fs : List (List Term)} {ts : List Term} {M : Nat} (h : ∀ i, i < fs.length → (fm fs i).length ≤ M) (h2 : ts.length ≤ M) : ∀ i, i < fs.length + 1 → (fm (fs ++ [ts]) i).length ≤ M := fun i hi => by
  unfold fm
  rcases Nat.lt_or_ge i fs.length with h1 | h1
  · rw [List.getD_eq_getElem?_getD, List.getElem?_append_left h1, ← List.getD_eq_getElem?_getD]
    exact h i h1
  · have h3 : i = fs.length := by omega
    subst h3
    rw [List.getD_eq_getElem?_getD, List.getElem?_append_right (by omega)]
    simpa using h2
set_option maxHeartbeats 1000000 in
set_option maxRecDepth 10000 in
theorem withGenerator_c {B : World} {H0 H : HP} {L : List SA} {w : World} {ba : Nat} {qad qaf : Option Addr} {cad caf : Nat} {ad : List Int} {af : List (List Term)} {n : Int} {qts : Option Addr} {cts : Nat} {ts : List Term}  (pad : CellAt H ba 0 (.slice qad ad.length cad)) (paf : CellAt H ba 1 (.slice qaf af.length caf)) (had : Ints H qad ad) (haf : Forms H qaf af) (hts : Terms H qts ts) (hn8 : ad.length ≤ 1048576) (hn9 : af.length ≤ 1000000) (hl9 : ∀ i, i < af.length → (fm af i).length ≤ 1048576) (hlt : ts.length ≤ 1048576) (hct : ts.length ≤ cts) (hH : Hp B H0 H L w) :
    Calls Try.prog 121 [.pointer (some ⟨ba, 0, none⟩), .int .i64 n, .agg [.slice qts ts.length cts].toArray].toArray w fun e w' => ∃ qd cd qf cf vs, e = .returned (.tuple #[.agg [.slice qd (wxD ad n).length cd, .slice qf (wxF ad af ts).length cf].toArray, .int .i64 (wxC ad)]) ∧ Hp B H0 H (own 2 1 qd (wxD ad n).length cd (intsC (wxD ad n)) :: ownFs 29 88 qf cf vs (wxF ad af ts) :: L) w' := by
  refine CJ.enter Try.func121 rfl 49 rfl rfl [(0, .pointer (some ⟨ba, 0, none⟩)), (1, .int .i64 n), (2, .agg [.slice qts ts.length cts].toArray)] rfl hH ?_
  have hw0 := hH.old
  have hw1 := hH.le
  clear hH
  refine CJ.seq fun _ hK1 _ => ?_
  refine CJ.region ?_
  refine J.box rfl rfl rfl fun g5 => ?_
  refine J.alloc ze41 rfl fun g6 => ?_
  refine J.p (PR.assign rfl) rfl ?_
  refine J.nil ?_
  refine EJ.thenN (hK1 ?_)
  refine CJ.seq fun _ hK2 _ => ?_
  refine CJ.seq fun _ hK3 _ => ?_
  refine CJ.region ?_
  refine J.p (PR.move rfl) rfl ?_
  refine J.p (PR.nilCheck rfl) rfl ?_
  refine J.p (PR.fldA u41 rfl sz22 rfl) rfl ?_
  refine J.p (PR.loadH (q := some ⟨ba, 0, none⟩) (k := 0) rfl pad pl22) rfl ?_
  refine J.p (PR.lenSlice u22 rfl rfl) rfl ?_
  refine J.p (PR.eql rfl rfl) rfl ?_
  refine J.nil ?_
  refine EJ.thenN (hK3 ?_)
  refine CJ.condD rfl (fun h16 => ?_) (fun h16 => ?_)
  ·
    refine CJ.seq fun _ hK4 _ => ?_
    refine CJ.region ?_
    refine J.p (PR.buildZ bz41) rfl ?_
    refine J.storeAll rfl rfl (by first | exact bytesC_one _ | exact intsC_one _ | exact Term.c_one _ | simp [Value.oneCell']) (by simpa [*] using sz41) (by simp [*]) At.z ?_
    refine J.p (PR.assign rfl) rfl ?_
    refine J.nil ?_
    refine EJ.thenN (hK4 ?_)
    refine CJ.ret ?_
    refine EJ.thenR ?_
    refine EJ.ret2 rfl (Res.agg rfl At.z (by simpa [*] using ag41)) (Res.tmp rfl) fun w hH => ?_
    replace hH := hH.sublist (.cons _ (.cons _ (List.Sublist.refl _)))
    obtain ⟨e1, e2, e3⟩ := wx_yes (ds := ad) (fs := af) (ts := ts) (n := n) (by omega)
    rw [e1, e2, e3]
    exact ⟨none, 0, none, 0, nilVs, rfl, ((hH.ownFsNil 29 88).own0 2 1)⟩
  ·
    refine CJ.skip ?_
    refine EJ.thenN (hK2 ?_)
    refine CJ.seq fun _ hK5 _ => ?_
    refine CJ.region ?_
    refine J.p (PR.move rfl) rfl ?_
    refine J.p (PR.nilCheck rfl) rfl ?_
    refine J.p (PR.fldA u41 rfl sz22 rfl) rfl ?_
    refine J.p (PR.loadH (q := some ⟨ba, 0, none⟩) (k := 0) rfl pad pl22) rfl ?_
    refine J.call fn117 rfl rfl fun w hH => (CloneI_c had (by omega) hH).mono ?_
    rintro _ w ⟨qo22, co22, rfl, hH⟩
    refine ⟨_, rfl, fun a hF => J.of hF hH ?_⟩
    refine J.p (PR.move rfl) rfl ?_
    refine J.mk (MK.lit1I u22 ze2 sz2 rfl) rfl fun qo24 co24 => ?_
    refine J.appendOI u22 ze2 sz2 by2 rfl rfl (by simp only [List.length_cons, List.length_nil]; omega) .z At.z (fun _ _ => At.z) rfl fun qo25 co25 => ?_
    refine J.own0 29 1 ?_
    refine J.ts0 88 ?_
    refine J.p (PR.build1 rfl (fun w => bd41_0 _ _ _ w)) rfl ?_
    refine J.alloc ze41 rfl fun g8 => ?_
    refine J.storeAll rfl rfl (by first | exact bytesC_one _ | exact intsC_one _ | exact Term.c_one _ | simp [Value.oneCell']) (by simpa [*] using sz41) (by simp [*]) At.z ?_
    refine J.nil ?_
    refine EJ.thenN (hK5 ?_)
    refine CJ.seq fun _ hK6 _ => ?_
    refine CJ.seq fun _ hK7 _ => ?_
    refine CJ.openR (Rs := [_, _, _, _, _, _, _]) 10 [[], [0], [0, 1], [0, 1, 2], [0, 1, 2, 3], [], [5], [0, 1, 2, 3, 4, 5, 6], [0, 1, 2, 3, 4, 5, 6, 7], []] [[], [], [], [], [], [16], [], [6], [], []] [[], [], [], [], [], [], [], [4], [], []] rfl rfl (by kernel_rfl) ?_
    apply GJ.st0 1 rfl
    · intro gh; conv => lhs; simp only [slotsZ, zlAt, vs0, resL, at2, eq_self, Nat.reduceEqDiff, reduceIte, Nat.reduceSub, Nat.reduceAdd, List.cons_append, List.nil_append]
      all_goals rfl
    · intro gh X; conv => lhs; simp only [slotsZ, zlAt, vs0, resL, at2, eq_self, Nat.reduceEqDiff, reduceIte, Nat.reduceSub, Nat.reduceAdd, List.cons_append, List.nil_append]
      all_goals rfl
    · intro gh X; conv => lhs; simp only [slotsZ, zlAt, vs0, resL, at2, eq_self, Nat.reduceEqDiff, reduceIte, Nat.reduceSub, Nat.reduceAdd, List.cons_append, List.nil_append]
      all_goals rfl
    ·
      intro gh X K zq zc zq2 zc2 zb zv hK
      refine J.p (PR.move rfl) rfl ?_
      refine J.nilK ?_
      exact hK zq zc zq2 zc2 zb zv
    ·
      intro gh gh' h
      rfl
    apply GJ.st0 2 rfl
    · intro gh; conv => lhs; simp only [slotsZ, zlAt, vs0, resL, at2, eq_self, Nat.reduceEqDiff, reduceIte, Nat.reduceSub, Nat.reduceAdd, List.cons_append, List.nil_append]
      all_goals rfl
    · intro gh X; conv => lhs; simp only [slotsZ, zlAt, vs0, resL, at2, eq_self, Nat.reduceEqDiff, reduceIte, Nat.reduceSub, Nat.reduceAdd, List.cons_append, List.nil_append]
      all_goals rfl
    · intro gh X; conv => lhs; simp only [slotsZ, zlAt, vs0, resL, at2, eq_self, Nat.reduceEqDiff, reduceIte, Nat.reduceSub, Nat.reduceAdd, List.cons_append, List.nil_append]
      all_goals rfl
    ·
      intro gh X K zq zc zq2 zc2 zb zv hK
      refine J.p (PR.nilCheck rfl) rfl ?_
      refine J.nilK ?_
      exact hK zq zc zq2 zc2 zb zv
    ·
      intro gh gh' h
      rfl
    apply GJ.st0 3 rfl
    · intro gh; conv => lhs; simp only [slotsZ, zlAt, vs0, resL, at2, eq_self, Nat.reduceEqDiff, reduceIte, Nat.reduceSub, Nat.reduceAdd, List.cons_append, List.nil_append]
      all_goals rfl
    · intro gh X; conv => lhs; simp only [slotsZ, zlAt, vs0, resL, at2, eq_self, Nat.reduceEqDiff, reduceIte, Nat.reduceSub, Nat.reduceAdd, List.cons_append, List.nil_append]
      all_goals rfl
    · intro gh X; conv => lhs; simp only [slotsZ, zlAt, vs0, resL, at2, eq_self, Nat.reduceEqDiff, reduceIte, Nat.reduceSub, Nat.reduceAdd, List.cons_append, List.nil_append]
      all_goals rfl
    ·
      intro gh X K zq zc zq2 zc2 zb zv hK
      refine J.p (PR.fldA u41 rfl sz39 rfl) rfl ?_
      refine J.nilK ?_
      exact hK zq zc zq2 zc2 zb zv
    ·
      intro gh gh' h
      rfl
    apply GJ.st0 4 rfl
    · intro gh; conv => lhs; simp only [slotsZ, zlAt, vs0, resL, at2, eq_self, Nat.reduceEqDiff, reduceIte, Nat.reduceSub, Nat.reduceAdd, List.cons_append, List.nil_append]
      all_goals rfl
    · intro gh X; conv => lhs; simp only [slotsZ, zlAt, vs0, resL, at2, eq_self, Nat.reduceEqDiff, reduceIte, Nat.reduceSub, Nat.reduceAdd, List.cons_append, List.nil_append]
      all_goals rfl
    · intro gh X; conv => lhs; simp only [slotsZ, zlAt, vs0, resL, at2, eq_self, Nat.reduceEqDiff, reduceIte, Nat.reduceSub, Nat.reduceAdd, List.cons_append, List.nil_append]
      all_goals rfl
    ·
      intro gh X K zq zc zq2 zc2 zb zv hK
      refine J.p (PR.loadH (q := some ⟨ba, 0, none⟩) (k := 1) rfl paf pl39) rfl ?_
      refine J.nilK ?_
      exact hK zq zc zq2 zc2 zb zv
    ·
      intro gh gh' h
      rfl
    apply GJ.st1 5 rfl
    · intro gh; conv => lhs; simp only [slotsZ, zlAt, vs0, resL, at2, eq_self, Nat.reduceEqDiff, reduceIte, Nat.reduceSub, Nat.reduceAdd, List.cons_append, List.nil_append]
      all_goals rfl
    · intro gh X; conv => lhs; simp only [slotsZ, zlAt, vs0, resL, at2, eq_self, Nat.reduceEqDiff, reduceIte, Nat.reduceSub, Nat.reduceAdd, List.cons_append, List.nil_append]
      all_goals rfl
    · intro gh X; conv => lhs; simp only [slotsZ, zlAt, vs0, resL, at2, eq_self, Nat.reduceEqDiff, reduceIte, Nat.reduceSub, Nat.reduceAdd, List.cons_append, List.nil_append]
      all_goals rfl
    ·
      intro gh X K zq zc zq2 zc2 zb zv hK
      refine J.call fn160 rfl rfl fun w hH => (CloneF_c haf (by omega) hH).mono ?_
      rintro _ w ⟨qo31, co31, rfl, hH⟩
      refine ⟨_, rfl, fun a hF => J.of hF hH ?_⟩
      refine J.nilK ?_
      exact hK qo31 co31 zq2 zc2 zb zv
    ·
      intro gh gh' h
      refine ⟨?_, ?_⟩ <;> rfl
    apply GJ.st0 6 rfl
    · intro gh; conv => lhs; simp only [slotsZ, zlAt, vs0, resL, at2, eq_self, Nat.reduceEqDiff, reduceIte, Nat.reduceSub, Nat.reduceAdd, List.cons_append, List.nil_append]
      all_goals rfl
    · intro gh X; conv => lhs; simp only [slotsZ, zlAt, vs0, resL, at2, eq_self, Nat.reduceEqDiff, reduceIte, Nat.reduceSub, Nat.reduceAdd, List.cons_append, List.nil_append]
      all_goals rfl
    · intro gh X; conv => lhs; simp only [slotsZ, zlAt, vs0, resL, at2, eq_self, Nat.reduceEqDiff, reduceIte, Nat.reduceSub, Nat.reduceAdd, List.cons_append, List.nil_append]
      all_goals rfl
    ·
      intro gh X K zq zc zq2 zc2 zb zv hK
      refine J.p (PR.loadAll rfl At.z (by simpa [*] using ag29)) rfl ?_
      refine J.nilK ?_
      exact hK zq zc zq2 zc2 zb zv
    ·
      intro gh gh' h
      rfl
    apply GJ.st1 7 rfl
    · intro gh; conv => lhs; simp only [slotsZ, zlAt, vs0, resL, at2, eq_self, Nat.reduceEqDiff, reduceIte, Nat.reduceSub, Nat.reduceAdd, List.cons_append, List.nil_append]
      all_goals rfl
    · intro gh X; conv => lhs; simp only [slotsZ, zlAt, vs0, resL, at2, eq_self, Nat.reduceEqDiff, reduceIte, Nat.reduceSub, Nat.reduceAdd, List.cons_append, List.nil_append]
      all_goals rfl
    · intro gh X; conv => lhs; simp only [slotsZ, zlAt, vs0, resL, at2, eq_self, Nat.reduceEqDiff, reduceIte, Nat.reduceSub, Nat.reduceAdd, List.cons_append, List.nil_append]
      all_goals rfl
    ·
      intro gh X K zq zc zq2 zc2 zb zv hK
      refine J.mk (MK.lit1S u39 ze29 sz29 rfl rfl) rfl fun qo33 co33 => ?_
      refine J.nilK ?_
      exact hK qo33 co33 zq2 zc2 zb zv
    ·
      intro gh gh' h
      refine ⟨?_, ?_⟩ <;> rfl
    apply GJ.st1 8 rfl
    · intro gh; conv => lhs; simp only [slotsZ, zlAt, vs0, resL, at2, eq_self, Nat.reduceEqDiff, reduceIte, Nat.reduceSub, Nat.reduceAdd, List.cons_append, List.nil_append]
      all_goals rfl
    · intro gh X; conv => lhs; simp only [slotsZ, zlAt, vs0, resL, at2, eq_self, Nat.reduceEqDiff, reduceIte, Nat.reduceSub, Nat.reduceAdd, List.cons_append, List.nil_append]
      all_goals rfl
    · intro gh X; conv => lhs; simp only [slotsZ, zlAt, vs0, resL, at2, eq_self, Nat.reduceEqDiff, reduceIte, Nat.reduceSub, Nat.reduceAdd, List.cons_append, List.nil_append]
      all_goals rfl
    ·
      intro gh X K zq zc zq2 zc2 zb zv hK
      refine J.append1 u39 ze29 sz29 by29 rfl rfl rfl rfl (by omega) (.s .z) At.z (fun _ _ => At.z) rfl fun qo34 co34 => ?_
      refine EJ.front .z ?_
      refine EJ.front (.s .z) ?_
      refine J.nilK ?_
      exact hK qo34 co34 zq2 zc2 zb zv
    ·
      intro gh gh' h
      refine ⟨?_, ?_⟩ <;> (first | simp only [h 4 rfl, h 6 rfl] | rfl)
    apply GJ.st0 9 rfl
    · intro gh; conv => lhs; simp only [slotsZ, zlAt, vs0, resL, at2, eq_self, Nat.reduceEqDiff, reduceIte, Nat.reduceSub, Nat.reduceAdd, List.cons_append, List.nil_append]
      all_goals rfl
    · intro gh X; conv => lhs; simp only [slotsZ, zlAt, vs0, resL, at2, eq_self, Nat.reduceEqDiff, reduceIte, Nat.reduceSub, Nat.reduceAdd, List.cons_append, List.nil_append]
      all_goals rfl
    · intro gh X; conv => lhs; simp only [slotsZ, zlAt, vs0, resL, at2, eq_self, Nat.reduceEqDiff, reduceIte, Nat.reduceSub, Nat.reduceAdd, List.cons_append, List.nil_append]
      all_goals rfl
    ·
      intro gh X K zq zc zq2 zc2 zb zv hK
      refine J.p (PR.lenSlice u39 rfl rfl) rfl ?_
      refine J.nilK ?_
      exact hK zq zc zq2 zc2 zb zv
    ·
      intro gh gh' h
      first | simp only [h 4 rfl, h 6 rfl, h 7 rfl] | rfl
    apply GJ.st0 10 rfl
    · intro gh; conv => lhs; simp only [slotsZ, zlAt, vs0, resL, at2, eq_self, Nat.reduceEqDiff, reduceIte, Nat.reduceSub, Nat.reduceAdd, List.cons_append, List.nil_append]
      all_goals rfl
    · intro gh X; conv => lhs; simp only [slotsZ, zlAt, vs0, resL, at2, eq_self, Nat.reduceEqDiff, reduceIte, Nat.reduceSub, Nat.reduceAdd, List.cons_append, List.nil_append]
      all_goals rfl
    · intro gh X; conv => lhs; simp only [slotsZ, zlAt, vs0, resL, at2, eq_self, Nat.reduceEqDiff, reduceIte, Nat.reduceSub, Nat.reduceAdd, List.cons_append, List.nil_append]
      all_goals rfl
    ·
      intro gh X K zq zc zq2 zc2 zb zv hK
      refine J.p (PR.move rfl) rfl ?_
      refine J.nilK ?_
      exact hK zq zc zq2 zc2 zb zv
    ·
      intro gh gh' h
      rfl
    apply GJ.close [0, 1, 2, 3, 4, 5, 6, 7, 8, 9] [0, 1, 2, 3, 5, 6, 7, 8, 9, 10, 11, 12, 13, 14, 15, 16] foll0 rfl rfl rfl (by rfl)
    · intro gh; conv => lhs; simp only [slotsZ, zlAt, vs0, resL, at2, eq_self, Nat.reduceEqDiff, reduceIte, Nat.reduceSub, Nat.reduceAdd, List.cons_append, List.nil_append]
      all_goals rfl
    · intro gh; conv => lhs; simp only [slotsZ, zlAt, vs0, resL, at2, eq_self, Nat.reduceEqDiff, reduceIte, Nat.reduceSub, Nat.reduceAdd, List.cons_append, List.nil_append]
      all_goals rfl
    intro gh
    generalize (gh 4).c = co31
    generalize (gh 4).q = qo31
    generalize (gh 6).c = co33
    generalize (gh 6).q = qo33
    generalize (gh 7).c = co34
    generalize (gh 7).q = qo34
    clear gh
    refine EJ.fixA (.s .z) fun H9 hle9 hA9 => ?_
    have hFF : Forms H9 qo34 (af ++ [ts]) := forms_more haf hle9 (hts.le hle9) hct hA9
    have hel : (af ++ [ts]).length = af.length + 1 := by simp
    have hlf := cat_fm hl9 hlt
    replace pad := pad.le hle9
    replace paf := paf.le hle9
    replace had := had.le hle9
    replace haf := haf.le hle9
    replace hts := hts.le hle9
    refine EJ.thenN (hK7 ?_)
    refine CJ.block ?_
    refine CJ.loopU (σ := Option Addr × Nat × Vs × Nat) (fun ⟨q, c, vs, k⟩ => [(36, .int .i64 (k : Int))]) (fun ⟨q, c, vs, k⟩ => H9) (fun ⟨q, c, vs, k⟩ => _ :: obj g8 (.cells [.slice qo25 (ad ++ [n]).length co25, .slice q k c].toArray 41 (0, 0)) :: ownTs 88 vs ((af ++ [ts]).take k) :: own 29 1 q k c (slicesC vs ((af ++ [ts]).take k)) :: _ :: own 2 1 qo25 (ad ++ [n]).length co25 (intsC (ad ++ [n])) :: obj g6 (.cells [.slice none 0 0, .slice none 0 0].toArray 41 (0, 0)) :: obj g5 (.cells [.slice qts ts.length cts].toArray 29 (0, 0)) :: L) (fun ⟨q, c, vs, k⟩ => k ≤ af.length + 1) (fun ⟨q, c, vs, k⟩ => af.length + 1 - k) (none, 0, nilVs, 0) (by show 0 ≤ af.length + 1; omega) ⟨rfl, trivial⟩ rfl rfl ?_
    rintro ⟨q, c, vs, k⟩ hk _ hAg0
    refine CJ.seq fun _ hK8 _ => ?_
    refine CJ.region ?_
    refine J.p (PR.lss rfl rfl) rfl ?_
    refine J.nil ?_
    refine EJ.thenN (hK8 ?_)
    refine CJ.seq fun _ hK9 _ => ?_
    refine CJ.condD rfl (fun hc37 => ?_) (fun hc37 => ?_)
    ·
      refine CJ.skip ?_
      refine EJ.thenN (hK9 ?_)
      refine CJ.seq fun _ hK10 _ => ?_
      refine CJ.block ?_
      refine CJ.seq fun _ hK11 _ => ?_
      refine CJ.region ?_
      refine J.p (PR.idx1 (i' := k) u39 sz29 rfl rfl rfl (by omega) (fun h => hFF.sm (i := k) (by omega))) rfl ?_
      obtain ⟨qe39, ce39, he39, le39, Fe39⟩ := hFF k (by omega)
      refine J.p (PR.loadHagg (cs := [_]) rfl (one_cell he39) (hFF.sm (i := k) (by omega)) ag29) rfl ?_
      refine J.alloc ze29 rfl fun g10 => ?_
      refine J.storeAll rfl rfl (by first | exact bytesC_one _ | exact intsC_one _ | exact Term.c_one _ | simp [Value.oneCell']) (by simpa [*] using sz29) (by simp [*]) At.z ?_
      refine J.nil ?_
      refine EJ.thenN (hK11 ?_)
      refine CJ.openR (Rs := [_, _, _, _, _, _, _, _, _]) 8 [[], [0], [], [2], [2, 3], [0, 1, 2, 3, 4], [0, 1, 2, 3, 4, 5], [0, 1, 2, 3, 4, 5, 6]] [[], [10], [8], [], [], [4], [], []] [[], [], [], [], [], [12], [], [10]] rfl rfl (by kernel_rfl) ?_
      apply GJ.st0 1 rfl
      · intro gh; conv => lhs; simp only [slotsZ, zlAt, vs0, resL, at2, eq_self, Nat.reduceEqDiff, reduceIte, Nat.reduceSub, Nat.reduceAdd, List.cons_append, List.nil_append]
        all_goals rfl
      · intro gh X; conv => lhs; simp only [slotsZ, zlAt, vs0, resL, at2, eq_self, Nat.reduceEqDiff, reduceIte, Nat.reduceSub, Nat.reduceAdd, List.cons_append, List.nil_append]
        all_goals rfl
      · intro gh X; conv => lhs; simp only [slotsZ, zlAt, vs0, resL, at2, eq_self, Nat.reduceEqDiff, reduceIte, Nat.reduceSub, Nat.reduceAdd, List.cons_append, List.nil_append]
        all_goals rfl
      ·
        intro gh X K zq zc zq2 zc2 zb zv hK
        refine J.p (PR.fldA u41 rfl sz39 rfl) rfl ?_
        refine J.nilK ?_
        exact hK zq zc zq2 zc2 zb zv
      ·
        intro gh gh' h
        rfl
      apply GJ.st0 2 rfl
      · intro gh; conv => lhs; simp only [slotsZ, zlAt, vs0, resL, at2, eq_self, Nat.reduceEqDiff, reduceIte, Nat.reduceSub, Nat.reduceAdd, List.cons_append, List.nil_append]
        all_goals rfl
      · intro gh X; conv => lhs; simp only [slotsZ, zlAt, vs0, resL, at2, eq_self, Nat.reduceEqDiff, reduceIte, Nat.reduceSub, Nat.reduceAdd, List.cons_append, List.nil_append]
        all_goals rfl
      · intro gh X; conv => lhs; simp only [slotsZ, zlAt, vs0, resL, at2, eq_self, Nat.reduceEqDiff, reduceIte, Nat.reduceSub, Nat.reduceAdd, List.cons_append, List.nil_append]
        all_goals rfl
      ·
        intro gh X K zq zc zq2 zc2 zb zv hK
        refine J.p (PR.load rfl At.z rfl pl39) rfl ?_
        refine J.nilK ?_
        exact hK zq zc zq2 zc2 zb zv
      ·
        intro gh gh' h
        rfl
      apply GJ.st0 3 rfl
      · intro gh; conv => lhs; simp only [slotsZ, zlAt, vs0, resL, at2, eq_self, Nat.reduceEqDiff, reduceIte, Nat.reduceSub, Nat.reduceAdd, List.cons_append, List.nil_append]
        all_goals rfl
      · intro gh X; conv => lhs; simp only [slotsZ, zlAt, vs0, resL, at2, eq_self, Nat.reduceEqDiff, reduceIte, Nat.reduceSub, Nat.reduceAdd, List.cons_append, List.nil_append]
        all_goals rfl
      · intro gh X; conv => lhs; simp only [slotsZ, zlAt, vs0, resL, at2, eq_self, Nat.reduceEqDiff, reduceIte, Nat.reduceSub, Nat.reduceAdd, List.cons_append, List.nil_append]
        all_goals rfl
      ·
        intro gh X K zq zc zq2 zc2 zb zv hK
        refine J.p (PR.loadAll rfl At.z (by simpa [*] using ag29)) rfl ?_
        refine J.nilK ?_
        exact hK zq zc zq2 zc2 zb zv
      ·
        intro gh gh' h
        rfl
      apply GJ.st1 4 rfl
      · intro gh; conv => lhs; simp only [slotsZ, zlAt, vs0, resL, at2, eq_self, Nat.reduceEqDiff, reduceIte, Nat.reduceSub, Nat.reduceAdd, List.cons_append, List.nil_append]
        all_goals rfl
      · intro gh X; conv => lhs; simp only [slotsZ, zlAt, vs0, resL, at2, eq_self, Nat.reduceEqDiff, reduceIte, Nat.reduceSub, Nat.reduceAdd, List.cons_append, List.nil_append]
        all_goals rfl
      · intro gh X; conv => lhs; simp only [slotsZ, zlAt, vs0, resL, at2, eq_self, Nat.reduceEqDiff, reduceIte, Nat.reduceSub, Nat.reduceAdd, List.cons_append, List.nil_append]
        all_goals rfl
      ·
        intro gh X K zq zc zq2 zc2 zb zv hK
        refine J.call fn118 rfl rfl fun w hH => (shifted_0 Fe39 (hlf k (by omega)) hH).mono ?_
        rintro _ w ⟨qo43, co43, rfl, hH⟩
        refine ⟨_, rfl, fun a hF => J.of hF hH ?_⟩
        refine J.nilK ?_
        exact hK qo43 co43 zq2 zc2 zb zv
      ·
        intro gh gh' h
        refine ⟨?_, ?_⟩ <;> rfl
      apply GJ.st1 5 rfl
      · intro gh; conv => lhs; simp only [slotsZ, zlAt, vs0, resL, at2, eq_self, Nat.reduceEqDiff, reduceIte, Nat.reduceSub, Nat.reduceAdd, List.cons_append, List.nil_append]
        all_goals rfl
      · intro gh X; conv => lhs; simp only [slotsZ, zlAt, vs0, resL, at2, eq_self, Nat.reduceEqDiff, reduceIte, Nat.reduceSub, Nat.reduceAdd, List.cons_append, List.nil_append]
        all_goals rfl
      · intro gh X; conv => lhs; simp only [slotsZ, zlAt, vs0, resL, at2, eq_self, Nat.reduceEqDiff, reduceIte, Nat.reduceSub, Nat.reduceAdd, List.cons_append, List.nil_append]
        all_goals rfl
      ·
        intro gh X K zq zc zq2 zc2 zb zv hK
        refine J.mk (MK.lit1S u39 ze29 sz29 rfl rfl) rfl fun qo44 co44 => ?_
        refine J.nilK ?_
        exact hK qo44 co44 zq2 zc2 zb zv
      ·
        intro gh gh' h
        refine ⟨?_, ?_⟩ <;> (first | simp only [h 3 rfl] | rfl)
      apply GJ.st1 6 rfl
      · intro gh; conv => lhs; simp only [slotsZ, zlAt, vs0, resL, at2, eq_self, Nat.reduceEqDiff, reduceIte, Nat.reduceSub, Nat.reduceAdd, List.cons_append, List.nil_append]
        all_goals rfl
      · intro gh X; conv => lhs; simp only [slotsZ, zlAt, vs0, resL, at2, eq_self, Nat.reduceEqDiff, reduceIte, Nat.reduceSub, Nat.reduceAdd, List.cons_append, List.nil_append]
        all_goals rfl
      · intro gh X; conv => lhs; simp only [slotsZ, zlAt, vs0, resL, at2, eq_self, Nat.reduceEqDiff, reduceIte, Nat.reduceSub, Nat.reduceAdd, List.cons_append, List.nil_append]
        all_goals rfl
      ·
        intro gh X K zq zc zq2 zc2 zb zv hK
        refine J.append1 u39 ze29 sz29 by29 rfl rfl rfl rfl (by omega) (.s .z) At.z (fun _ _ => At.z) rfl fun qo45 co45 => ?_
        refine EJ.front .z ?_
        refine EJ.front (.s .z) ?_
        refine J.nilK ?_
        exact hK qo45 co45 zq2 zc2 zb zv
      ·
        intro gh gh' h
        refine ⟨?_, ?_⟩ <;> (first | simp only [h 3 rfl, h 4 rfl] | rfl)
      apply GJ.st0 7 rfl
      · intro gh; conv => lhs; simp only [slotsZ, zlAt, vs0, resL, at2, eq_self, Nat.reduceEqDiff, reduceIte, Nat.reduceSub, Nat.reduceAdd, List.cons_append, List.nil_append]
        all_goals rfl
      · intro gh X; conv => lhs; simp only [slotsZ, zlAt, vs0, resL, at2, eq_self, Nat.reduceEqDiff, reduceIte, Nat.reduceSub, Nat.reduceAdd, List.cons_append, List.nil_append]
        all_goals rfl
      · intro gh X; conv => lhs; simp only [slotsZ, zlAt, vs0, resL, at2, eq_self, Nat.reduceEqDiff, reduceIte, Nat.reduceSub, Nat.reduceAdd, List.cons_append, List.nil_append]
        all_goals rfl
      ·
        intro gh X K zq zc zq2 zc2 zb zv hK
        refine J.p (PR.fldA u41 rfl sz39 rfl) rfl ?_
        refine J.nilK ?_
        exact hK zq zc zq2 zc2 zb zv
      ·
        intro gh gh' h
        first | simp only [h 3 rfl, h 4 rfl, h 5 rfl] | rfl
      apply GJ.sn1 8 rfl
      · intro gh; conv => lhs; simp only [slotsZ, zlAt, vs0, resL, at2, eq_self, Nat.reduceEqDiff, reduceIte, Nat.reduceSub, Nat.reduceAdd, List.cons_append, List.nil_append]
        all_goals rfl
      · intro gh X; conv => lhs; simp only [slotsZ, zlAt, vs0, resL, at2, eq_self, Nat.reduceEqDiff, reduceIte, Nat.reduceSub, Nat.reduceAdd, List.cons_append, List.nil_append]
        all_goals rfl
      · intro gh X; conv => lhs; simp only [slotsZ, zlAt, vs0, resL, at2, eq_self, Nat.reduceEqDiff, reduceIte, Nat.reduceSub, Nat.reduceAdd, List.cons_append, List.nil_append]
        all_goals rfl
      ·
        intro gh X K hK
        refine J.store rfl rfl rfl rfl sz39 (by simp [*]) At.z ?_
        refine J.nilK ?_
        exact hK
      ·
        intro gh gh' h
        first | simp only [h 3 rfl, h 4 rfl, h 5 rfl] | rfl
      apply GJ.close [0, 1, 2, 3, 4, 5, 6, 7] [0, 1, 2, 3, 4, 5, 6, 7, 8, 9, 11, 13, 14, 15, 16] foll0 rfl rfl rfl (by rfl)
      · intro gh; conv => lhs; simp only [slotsZ, zlAt, vs0, resL, at2, eq_self, Nat.reduceEqDiff, reduceIte, Nat.reduceSub, Nat.reduceAdd, List.cons_append, List.nil_append]
        all_goals rfl
      · intro gh; conv => lhs; simp only [slotsZ, zlAt, vs0, resL, at2, eq_self, Nat.reduceEqDiff, reduceIte, Nat.reduceSub, Nat.reduceAdd, List.cons_append, List.nil_append]
        all_goals rfl
      intro gh
      generalize (gh 3).c = co43
      generalize (gh 3).q = qo43
      generalize (gh 4).c = co44
      generalize (gh 4).q = qo44
      generalize (gh 5).c = co45
      generalize (gh 5).q = qo45
      clear gh
      refine EJ.inN ?_
      refine EJ.thenN (hK10 ?_)
      refine CJ.region ?_
      refine J.p (PR.add rfl rfl (by first | exact nw _ (by omega) | rfl)) rfl ?_
      refine J.p (PR.move rfl) rfl ?_
      refine J.nil ?_
      refine EJ.thenN ?_
      refine EJ.front (.s (.s (.s (.s (.s (.s (.s (.s (.s (.s .z)))))))))) ?_
      refine EJ.front (.s (.s (.s (.s (.s (.s (.s (.s (.s (.s .z)))))))))) ?_
      refine EJ.front (.s (.s (.s (.s (.s (.s (.s (.s (.s (.s .z)))))))))) ?_
      refine EJ.front (.s (.s (.s (.s (.s (.s (.s (.s (.s (.s .z)))))))))) ?_
      refine EJ.front (.s (.s (.s (.s (.s (.s (.s (.s (.s .z))))))))) ?_
      refine EJ.front (.s (.s (.s (.s (.s (.s (.s (.s (.s .z))))))))) ?_
      refine EJ.front (.s (.s (.s (.s (.s (.s (.s (.s (.s .z))))))))) ?_
      refine EJ.front (.s (.s (.s (.s (.s (.s (.s (.s (.s .z))))))))) ?_
      refine EJ.front (.s (.s (.s (.s (.s (.s (.s (.s (.s .z))))))))) ?_
      refine EJ.front (.s (.s (.s (.s (.s (.s (.s (.s (.s (.s .z)))))))))) ?_
      refine EJ.front (.s (.s (.s (.s (.s (.s (.s (.s (.s (.s .z)))))))))) ?_
      refine EJ.fsSnoc (fs := (af ++ [ts]).take k) (List.length_take_of_le (by omega)) rfl ?_
      refine EJ.drop (.s .z) ?_
      refine EJ.drop (.s (.s (.s .z))) ?_
      refine EJ.front (.s (.s (.s (.s (.s (.s (.s .z))))))) ?_
      refine EJ.front (.s (.s (.s (.s (.s (.s (.s .z))))))) ?_
      refine EJ.front (.s (.s (.s (.s (.s (.s (.s .z))))))) ?_
      refine EJ.front (.s (.s (.s (.s (.s (.s (.s .z))))))) ?_
      refine EJ.front (.s (.s (.s (.s (.s .z))))) ?_
      refine EJ.front (.s (.s (.s (.s (.s .z))))) ?_
      refine EJ.front (.s (.s (.s (.s (.s (.s .z)))))) ?_
      refine EJ.front (.s (.s (.s (.s (.s (.s (.s .z))))))) ?_
      exact hAg0 (qo45, co45, setV vs k (qo43, co43), k + 1) (by show k + 1 ≤ af.length + 1; omega) (by show af.length + 1 - (k + 1) < af.length + 1 - k; omega) 14 rfl rfl ⟨rfl, trivial⟩ rfl (by dsimp only; rw [take_fm (by omega), slicesC_set (List.length_take_of_le (by omega))]; rfl)
    ·
      refine CJ.exit ?_
      refine EJ.thenE ?_
      refine EJ.thenE ?_
      refine EJ.inE ?_
      refine EJ.thenN (hK6 ?_)
      refine CJ.seq fun _ hK12 _ => ?_
      refine CJ.region ?_
      refine J.p (PR.loadAll rfl (.s .z) (by simpa [*] using ag41)) rfl ?_
      refine J.storeAll rfl rfl (by first | exact bytesC_one _ | exact intsC_one _ | exact Term.c_one _ | simp [Value.oneCell']) (by simpa [*] using sz41) (by simp [*]) (.s (.s (.s (.s (.s (.s .z)))))) ?_
      refine J.p (PR.assign rfl) rfl ?_
      refine J.nil ?_
      refine EJ.thenN (hK12 ?_)
      refine CJ.ret ?_
      refine EJ.ret2 rfl (Res.agg rfl (.s (.s (.s (.s (.s (.s .z)))))) (by simpa [*] using ag41)) (Res.tmp rfl) fun w hH => ?_
      replace hH := hH.sublist (.cons _ (.cons _ (.cons_cons _ (.cons_cons _ (.cons _ (.cons_cons _ (.cons _ (.cons _ (List.Sublist.refl _)))))))))
      obtain rfl : k = af.length + 1 := by omega
      obtain ⟨e1, e2, e3⟩ := wx_no (ds := ad) (fs := af) (n := n) (ts := ts) (by omega)
      have f2 : (af ++ [ts]).take (af.length + 1) = af ++ [ts] := List.take_of_length_le (by omega)
      rw [f2] at hH
      rw [e1, e2, e3]
      exact ⟨_, _, q, c, vs, by rw [hel], by unfold ownFs; rw [hel]; exact ((hH.front (.s .z)).star.front (.s .z)).weaken hle9 hw0 hw1⟩
end Go.Proofs.Ytpojpokldncglaa.G
namespace Go.Proofs.Ytpojpokldncglaa.G
open Go Go.RowKit
namespace Oj
theorem u22 : Try.prog.underlying 22 = some (TypeDesc.slice 2) := by kernel_rfl
theorem u27 : Try.prog.underlying 27 = some (TypeDesc.slice 88) := by kernel_rfl
theorem u29 : Try.prog.underlying 29 = some (TypeDesc.struct #[{ name := "Terms", type := 27, offset := 0, embedded := false, tag := "", pkgPath := "", byteOffset := 0 }]) := by kernel_rfl
theorem u39 : Try.prog.underlying 39 = some (TypeDesc.slice 29) := by kernel_rfl
theorem u41 : Try.prog.underlying 41 = some (TypeDesc.struct #[{ name := "Degrees", type := 22, offset := 0, embedded := false, tag := "", pkgPath := "", byteOffset := 0 }, { name := "Images", type := 39, offset := 1, embedded := false, tag := "", pkgPath := "", byteOffset := 24 }]) := by kernel_rfl
theorem sz2 : Size Try.prog 2 1 := by unfold Size; kernel_rfl
theorem sz22 : Size Try.prog 22 1 := by unfold Size; kernel_rfl
theorem sz27 : Size Try.prog 27 1 := by unfold Size; kernel_rfl
theorem sz29 : Size Try.prog 29 1 := by unfold Size; kernel_rfl
theorem sz41 : Size Try.prog 41 2 := by unfold Size; kernel_rfl
theorem ze2 : Zero Try.prog 2 [.int .i64 0] := by unfold Zero; kernel_rfl
theorem ze29 : Zero Try.prog 29 [.slice none 0 0] := by unfold Zero; kernel_rfl
theorem ze41 : Zero Try.prog 41 [.slice none 0 0, .slice none 0 0] := by unfold Zero; kernel_rfl
theorem bz41 : ∀ w, (Instr.build 41 #[]).run Try.prog w = .ok (.agg [.slice none 0 0, .slice none 0 0].toArray) w := fun _ => by kernel_rfl
theorem pl22 : Plain Try.prog 22 := ⟨_, u22, rfl⟩
theorem pl27 : Plain Try.prog 27 := ⟨_, u27, rfl⟩
theorem ag29 : Agg Try.prog 29 1 := ⟨_, u29, rfl, by kernel_rfl⟩
theorem ag41 : Agg Try.prog 41 2 := ⟨_, u41, rfl, by kernel_rfl⟩
theorem fn100 : Fn Try.prog 100 := ⟨_, Try.func100, by kernel_rfl, rfl⟩
theorem fn119 : Fn Try.prog 119 := ⟨_, Try.func119, by kernel_rfl, rfl⟩
theorem fn120 : Fn Try.prog 120 := ⟨_, Try.func120, by kernel_rfl, rfl⟩
theorem fn121 : Fn Try.prog 121 := ⟨_, Try.func121, by kernel_rfl, rfl⟩
theorem fn74 : Fn Try.prog 74 := ⟨_, Try.func74, by kernel_rfl, rfl⟩
theorem fn75 : Fn Try.prog 75 := ⟨_, Try.func75, by kernel_rfl, rfl⟩
theorem fn83 : Fn Try.prog 83 := ⟨_, Try.func83, by kernel_rfl, rfl⟩
theorem fn86 : Fn Try.prog 86 := ⟨_, Try.func86, by kernel_rfl, rfl⟩
theorem fn92 : Fn Try.prog 92 := ⟨_, Try.func92, by kernel_rfl, rfl⟩
theorem fn97 : Fn Try.prog 97 := ⟨_, Try.func97, by kernel_rfl, rfl⟩
theorem fn98 : Fn Try.prog 98 := ⟨_, Try.func98, by kernel_rfl, rfl⟩
theorem fn99 : Fn Try.prog 99 := ⟨_, Try.func99, by kernel_rfl, rfl⟩
end Oj
open Oj
def wgIn (n : Int) : Bool := decide (1 ≤ n) && decide (n ≤ 12)
def wg1 (ds : List Int) (fs : List (List Term)) (ts : List Term) (n : Int) : Int := if bothC ds fs ts ≠ 0 then bothC ds fs ts else if wgIn n then 0 else 2
def wgSt (ds : List Int) (fs : List (List Term)) (ts : List Term) (n : Int) : Bool := degOk ds ts (n + 1) && decide ((dS ds fs (toS ts)).length = 0)
def wg2 (ds : List Int) (fs : List (List Term)) (ts : List Term) (n : Int) : Int := if wg1 ds fs ts n ≠ 0 then wg1 ds fs ts n else if wgSt ds fs ts n then 0 else 5
def wgD (ds : List Int) (fs : List (List Term)) (ts : List Term) (n : Int) : List Int := if wg2 ds fs ts n ≠ 0 then [] else wxD ds n
def wgF (ds : List Int) (fs : List (List Term)) (ts : List Term) (n : Int) : List (List Term) := if wg2 ds fs ts n ≠ 0 then [] else wxF ds fs ts
def wgC (ds : List Int) (fs : List (List Term)) (ts : List Term) (n : Int) : Int := if wg2 ds fs ts n ≠ 0 then wg2 ds fs ts n else wxC ds
section
variable {ds : List Int} {fs : List (List Term)} {ts : List Term} {n : Int}
theorem wg1_a (h : bothC ds fs ts = 0) (h2 : wgIn n = false) : 2 = wg1 ds fs ts n := by unfold wg1; rw [if_neg (fun x => x h), h2]; rfl
theorem wg1_b (h : bothC ds fs ts = 0) (h2 : wgIn n = true) : bothC ds fs ts = wg1 ds fs ts n := by unfold wg1; rw [if_neg (fun x => x h), h2]; exact h
theorem wg1_c (h : ¬ bothC ds fs ts = 0) : bothC ds fs ts = wg1 ds fs ts n := by unfold wg1; rw [if_pos h]
theorem wg1_first : firstOf [codeA ds fs [ts], if !(decide (1 ≤ n) && decide (n ≤ 12)) then 2 else 0] = wg1 ds fs ts n := by
  rw [codeA_one]
  unfold wg1 bothC wgIn
  cases (isAlg ds fs && isForm ds ts) <;> cases (decide (1 ≤ n) && decide (n ≤ 12)) <;> rfl
theorem wg1_z (h : wg1 ds fs ts n = 0) : (isAlg ds fs && isForm ds ts) = true ∧ wgIn n = true := by
  unfold wg1 at h
  by_cases h1 : bothC ds fs ts ≠ 0
  · rw [if_pos h1] at h; exact absurd h h1
  · rw [if_neg h1] at h
    refine ⟨bothC_eq h1, ?_⟩
    cases e : wgIn n with
    | true => rfl
    | false => rw [e] at h; simp at h
theorem wgIn_bd (h : wgIn n = true) : 1 ≤ n ∧ n ≤ 12 := by simpa [wgIn] using h
theorem wg2_a (h : wg1 ds fs ts n = 0) (h2 : wgSt ds fs ts n = false) : 5 = wg2 ds fs ts n := by unfold wg2; rw [if_neg (fun x => x h), h2]; rfl
theorem wg2_b (h : wg1 ds fs ts n = 0) (h2 : wgSt ds fs ts n = true) : wg1 ds fs ts n = wg2 ds fs ts n := by unfold wg2; rw [if_neg (fun x => x h), h2]; exact h
theorem wg2_c (h : ¬ wg1 ds fs ts n = 0) : wg1 ds fs ts n = wg2 ds fs ts n := by unfold wg2; rw [if_pos h]
theorem wg2_z (h : wg2 ds fs ts n = 0) : wg1 ds fs ts n = 0 := by
  unfold wg2 at h
  by_cases h1 : wg1 ds fs ts n ≠ 0
  · rw [if_pos h1] at h; exact absurd h h1
  · exact Decidable.not_not.1 h1
theorem wg_bad (h : wg2 ds fs ts n ≠ 0) : wgD ds fs ts n = [] ∧ wgF ds fs ts n = [] ∧ wgC ds fs ts n = wg2 ds fs ts n := by unfold wgD wgF wgC; rw [if_pos h, if_pos h, if_pos h]; exact ⟨rfl, rfl, rfl⟩
theorem wg_ok (h : wg2 ds fs ts n = 0) : wgD ds fs ts n = wxD ds n ∧ wgF ds fs ts n = wxF ds fs ts ∧ wgC ds fs ts n = wxC ds := by
  have h' : ¬ wg2 ds fs ts n ≠ 0 := fun x => x h
  unfold wgD wgF wgC
  rw [if_neg h', if_neg h', if_neg h']
  exact ⟨rfl, rfl, rfl⟩
theorem wg_pre (h : ¬ wg1 ds fs ts n = 0) : wgD ds fs ts n = [] ∧ wgF ds fs ts n = [] ∧ wgC ds fs ts n = wg1 ds fs ts n := by
  have e := wg2_c h
  have h2 := wg_bad (ds := ds) (fs := fs) (ts := ts) (n := n) (by rw [← e]; exact h)
  rw [← e] at h2
  exact h2
theorem wg_st (h : wg1 ds fs ts n = 0) (h2 : wgSt ds fs ts n = false) : wgD ds fs ts n = [] ∧ wgF ds fs ts n = [] ∧ wgC ds fs ts n = 5 := by
  have e := wg2_a h h2
  have h3 := wg_bad (ds := ds) (fs := fs) (ts := ts) (n := n) (by rw [← e]; decide)
  rw [← e] at h3
  exact h3
theorem wg_lim (h : wg1 ds fs ts n = 0) (h2 : wgSt ds fs ts n = true) (h8 : ds.length = 8) : wgD ds fs ts n = [] ∧ wgF ds fs ts n = [] ∧ wgC ds fs ts n = 3 := by
  obtain ⟨e1, e2, e3⟩ := wg_ok (ds := ds) (fs := fs) (ts := ts) (n := n) (by rw [← wg2_b h h2]; exact h)
  obtain ⟨f1, f2, f3⟩ := wx_yes (ds := ds) (fs := fs) (ts := ts) (n := n) h8
  rw [e1, e2, e3, f1, f2, f3]
  exact ⟨rfl, rfl, rfl⟩
theorem wg_fin (h : wg1 ds fs ts n = 0) (h2 : wgSt ds fs ts n = true) (h8 : ¬ ds.length = 8) : wgD ds fs ts n = ds ++ [n] ∧ wgF ds fs ts n = fs ++ [ts] ∧ wgC ds fs ts n = 0 := by
  obtain ⟨e1, e2, e3⟩ := wg_ok (ds := ds) (fs := fs) (ts := ts) (n := n) (by rw [← wg2_b h h2]; exact h)
  obtain ⟨f1, f2, f3⟩ := wx_no (ds := ds) (fs := fs) (ts := ts) (n := n) h8
  rw [e1, e2, e3, f1, f2, f3]
  exact ⟨rfl, rfl, rfl⟩
theorem wgSt_0 (h : degOk ds ts (n + 1) = false) : wgSt ds fs ts n = false := by unfold wgSt; rw [h]; rfl
theorem wgSt_1 (h : homog ds ts = false) : wgSt ds fs ts n = false := by unfold wgSt degOk; rw [h]; rfl
theorem wgSt_2 (h : ¬ degF ds ts = -1) (h2 : ¬ degF ds ts = n + 1) : wgSt ds fs ts n = false := by unfold wgSt degOk; rw [decide_eq_false h, decide_eq_false h2]; simp
theorem wgSt_3 (h : ¬ (dS ds fs (toS ts)).length = 0) : wgSt ds fs ts n = false := by unfold wgSt; rw [decide_eq_false h, Bool.and_false]
theorem wgSt_4 (h : homog ds ts = true) (h2 : degF ds ts = -1 ∨ degF ds ts = n + 1) (h3 : (dS ds fs (toS ts)).length = 0) : wgSt ds fs ts n = true := by
  unfold wgSt degOk
  rw [h, decide_eq_true h3]
  rcases h2 with h2 | h2 <;> rw [decide_eq_true h2] <;> simp
theorem wgSt_5 (h : degOk ds ts (n + 1) = true) (h3 : (dS ds fs (toS ts)).length = 0) : wgSt ds fs ts n = true := by unfold wgSt; rw [h, decide_eq_true h3]; rfl
theorem wgF_wf (h : Wfss fs) (h2 : Wfs ts) : Wfss (wgF ds fs ts n) := by
  unfold wgF wxF
  split
  · exact fun f hf => by simp at hf
  · split
    · exact fun f hf => by simp at hf
    · exact Wfss.snoc h h2
theorem wg_len (ds : List Int) (fs : List (List Term)) (ts : List Term) (n : Int) : (wgD ds fs ts n).length ≤ 9 ∧ (wgF ds fs ts n).length ≤ 9 ∧ tot (wgF ds fs ts n) ≤ tot fs + ts.length := by
  by_cases h : wg2 ds fs ts n = 0
  · obtain ⟨e1, e2, _⟩ := wg_ok h
    have h2 := isAlg_len (Bool.and_eq_true_iff.1 (wg1_z (wg2_z h)).1).1
    rw [e1, e2]
    unfold wxD wxF
    split
    · simp [tot]
    · simp [tot_app, tot]
      omega
  · obtain ⟨e1, e2, _⟩ := wg_bad h
    rw [e1, e2]
    simp [tot]
end
set_option maxHeartbeats 4000000 in
set_option maxRecDepth 10000 in
theorem sWith_c {B : World} {H0 H : HP} {L : List SA} {w : World} {qad qaf : Option Addr} {cad caf : Nat} {ad : List Int} {af : List (List Term)} {n : Int} {qts : Option Addr} {cts : Nat} {ts : List Term}  (had : Ints H qad ad) (haf : Forms H qaf af) (hts : Terms H qts ts) (hn8 : ad.length ≤ 1048576) (hn9 : af.length ≤ 1048576) (hl9 : ∀ i, i < af.length → (fm af i).length ≤ 1048576) (hlt : ts.length ≤ 1048576) (hct : ts.length ≤ cts) (hH : Hp B H0 H L w) :
    Calls Try.prog 60 [.agg [.slice qad ad.length cad, .slice qaf af.length caf].toArray, .int .i64 n, .agg [.slice qts ts.length cts].toArray].toArray w fun e w' => ∃ qd cd qf cf vs, e = .returned (.tuple #[.agg [.slice qd (wgD ad af ts n).length cd, .slice qf (wgF ad af ts n).length cf].toArray, .int .i64 (wgC ad af ts n)]) ∧ Hp B H0 H (own 2 1 qd (wgD ad af ts n).length cd (intsC (wgD ad af ts n)) :: ownFs 29 88 qf cf vs (wgF ad af ts n) :: L) w' := by
  refine CJ.enter Try.func60 rfl 66 rfl rfl [(0, .agg [.slice qad ad.length cad, .slice qaf af.length caf].toArray), (1, .int .i64 n), (2, .agg [.slice qts ts.length cts].toArray)] rfl hH ?_
  clear hH
  refine CJ.seq fun _ hK1 _ => ?_
  refine CJ.region ?_
  refine J.box rfl rfl rfl fun g3 => ?_
  refine J.box rfl rfl rfl fun g5 => ?_
  refine J.alloc ze41 rfl fun g6 => ?_
  refine J.p (PR.assign rfl) rfl ?_
  refine J.nil ?_
  refine EJ.thenN (hK1 ?_)
  refine CJ.seq fun _ hK2 _ => ?_
  refine CJ.region ?_
  refine J.p (PR.loadAll rfl (.s (.s .z)) (by simpa [*] using ag41)) rfl ?_
  refine J.p (PR.loadAll rfl (.s .z) (by simpa [*] using ag29)) rfl ?_
  refine J.call fn97 rfl rfl fun w hH => (l02Both_c had haf hts hn8 hn9 hl9 (by omega) hH).mono ?_
  rintro _ w ⟨rfl, hH⟩
  refine ⟨_, rfl, fun a hF => J.of hF hH ?_⟩
  refine J.p (PR.assign rfl) rfl ?_
  refine J.nil ?_
  refine EJ.thenN (hK2 ?_)
  refine CJ.cutU (σ := Int) (fun (cd : Int) => [(8, .int .i64 cd)]) (fun (cd : Int) => H) (fun (cd : Int) => obj g6 (.cells [.slice none 0 0, .slice none 0 0].toArray 41 (0, 0)) :: obj g5 (.cells [.slice qts ts.length cts].toArray 29 (0, 0)) :: obj g3 (.cells [.slice qad ad.length cad, .slice qaf af.length caf].toArray 41 (0, 0)) :: L) (fun (cd : Int) => cd = wg1 ad af ts n) ?_ ?_
  ·
    intro _ hMt1
    refine CJ.seq fun _ hK3 _ => ?_
    refine CJ.region ?_
    refine J.p (PR.move rfl) rfl ?_
    refine J.p (PR.eql rfl rfl) rfl ?_
    refine J.p (PR.move rfl) rfl ?_
    refine J.splitB (jd := 16) rfl (fun hg16 => ?_) (fun hg16 => ?_)
    ·
      try have hg16p := of_decide_eq_true hg16
      refine J.gy (PR.move rfl) rfl rfl rfl hg16 ?_
      refine J.gcall fn83 rfl rfl hg16 rfl rfl fun w hH => (l01In_c  hH).mono ?_
      rintro _ w ⟨rfl, hH⟩
      refine ⟨_, rfl, fun a hF => J.of hF hH ?_⟩
      refine J.gy (PR.not rfl) rfl rfl rfl hg16 ?_
      refine J.p (PR.pickT rfl hg16 rfl) rfl ?_
      refine J.nil ?_
      refine EJ.thenN (hK3 ?_)
      refine CJ.cond rfl (fun h20 => ?_) (fun h20 => ?_)
      ·
        refine CJ.region ?_
        refine J.p (PR.assign rfl) rfl ?_
        refine J.nil ?_
        refine EJ.thenN ?_
        exact hMt1 (2 : Int) (wg1_a hg16p (bnot_t h20)) 8 rfl rfl ⟨rfl, trivial⟩ rfl rfl
      ·
        refine CJ.skip ?_
        refine EJ.thenN ?_
        exact hMt1 (bothC ad af ts) (wg1_b hg16p (bnot_f h20)) 7 rfl rfl ⟨rfl, trivial⟩ rfl rfl
    ·
      try have hg16p := of_decide_eq_false hg16
      refine J.gn rfl rfl rfl hg16 ?_
      refine J.gn rfl rfl rfl hg16 ?_
      refine J.gn rfl rfl rfl hg16 ?_
      refine J.p (PR.pickF rfl hg16 rfl) rfl ?_
      refine J.nil ?_
      refine EJ.thenN (hK3 ?_)
      refine CJ.condF rfl ?_
      refine CJ.skip ?_
      refine EJ.thenN ?_
      exact hMt1 (bothC ad af ts) (wg1_c hg16p) 7 rfl rfl ⟨rfl, trivial⟩ rfl rfl
  ·
    rintro cd hcd
    refine CJ.seq fun _ hK4 _ => ?_
    refine CJ.seq fun _ hK5 _ => ?_
    refine CJ.region ?_
    refine J.p (PR.move rfl) rfl ?_
    refine J.p (PR.neq rfl rfl) rfl ?_
    refine J.nil ?_
    refine EJ.thenN (hK5 ?_)
    refine CJ.condD rfl (fun h22 => ?_) (fun h22 => ?_)
    ·
      refine CJ.seq fun _ hK6 _ => ?_
      refine CJ.region ?_
      refine J.p (PR.buildZ bz41) rfl ?_
      refine J.p (PR.move rfl) rfl ?_
      refine J.storeAll rfl rfl (by first | exact bytesC_one _ | exact intsC_one _ | exact Term.c_one _ | simp [Value.oneCell']) (by simpa [*] using sz41) (by simp [*]) At.z ?_
      refine J.p (PR.assign rfl) rfl ?_
      refine J.nil ?_
      refine EJ.thenN (hK6 ?_)
      refine CJ.ret ?_
      refine EJ.thenR ?_
      refine EJ.ret2 rfl (Res.agg rfl At.z (by simpa [*] using ag41)) (Res.tmp rfl) fun w hH => ?_
      replace hH := hH.sublist (.cons _ (.cons _ (.cons _ (List.Sublist.refl _))))
      have hn1 : ¬ wg1 ad af ts n = 0 := by rw [← hcd]; exact h22
      rw [hcd]
      obtain ⟨e1, e2, e3⟩ := wg_pre hn1
      rw [e1, e2, e3]
      exact ⟨none, 0, none, 0, nilVs, rfl, ((hH.ownFsNil 29 88).own0 2 1)⟩
    ·
      have hz1 : wg1 ad af ts n = 0 := by have := hcd; omega
      obtain ⟨hAF0, hIn⟩ := wg1_z hz1
      have hAF := Bool.and_eq_true_iff.1 hAF0
      have hA := isAlg_ok hAF.1 haf.wfss
      have hF := hAF.2
      have hF4 := isForm_len4 hF
      have hFs9 := isForm_sok hts.wfs hF
      have hFk := isForm_kex hA.hd hA.hn hts.wfs hF
      have hn12 := wgIn_bd hIn
      have hPl := isAlg_len hAF.1
      refine CJ.skip ?_
      refine EJ.thenN (hK4 ?_)
      refine CJ.seq fun _ hK7 _ => ?_
      refine CJ.region ?_
      refine J.p (PR.fldA u41 rfl sz22 rfl) rfl ?_
      refine J.p (PR.load rfl (.s (.s .z)) rfl pl22) rfl ?_
      refine J.p (PR.loadAll rfl (.s .z) (by simpa [*] using ag29)) rfl ?_
      refine J.call fn119 rfl rfl fun w hH => (l01Degree_c had hts hA.hn hA.hd (by omega) hH).mono ?_
      rintro _ w ⟨rfl, hH⟩
      refine ⟨_, rfl, fun a hF => J.of hF hH ?_⟩
      refine J.p (PR.move rfl) rfl ?_
      refine J.p (PR.extract rfl rfl) rfl ?_
      refine J.p (PR.extract rfl rfl) rfl ?_
      refine J.p (PR.assign rfl) rfl ?_
      refine J.p (PR.assign rfl) rfl ?_
      refine J.nil ?_
      refine EJ.thenN (hK7 ?_)
      refine CJ.seq fun _ hK8 _ => ?_
      refine CJ.block ?_
      refine CJ.seq fun _ hK9 _ => ?_
      refine CJ.region ?_
      refine J.p (PR.move rfl) rfl ?_
      refine J.p (PR.not rfl) rfl ?_
      refine J.p (PR.move rfl) rfl ?_
      refine J.splitB (jd := 35) rfl (fun hg35 => ?_) (fun hg35 => ?_)
      ·
        try have hg35p := of_decide_eq_true hg35
        refine J.gn rfl rfl rfl hg35 ?_
        refine J.gn rfl rfl rfl hg35 ?_
        refine J.gn rfl rfl rfl hg35 ?_
        refine J.gn rfl rfl rfl hg35 ?_
        refine J.gn rfl rfl rfl hg35 ?_
        refine J.gu rfl rfl rfl ?_
        refine J.gu rfl rfl rfl ?_
        refine J.gu rfl rfl rfl ?_
        refine J.gu rfl rfl rfl ?_
        refine J.gn rfl rfl rfl hg35 ?_
        refine J.p (PR.pickT rfl hg35 rfl) rfl ?_
        refine J.p (PR.move rfl) rfl ?_
        refine J.gn rfl rfl rfl rfl ?_
        refine J.gn rfl rfl rfl rfl ?_
        refine J.gn rfl rfl rfl rfl ?_
        refine J.gn rfl rfl rfl rfl ?_
        refine J.gn rfl rfl rfl rfl ?_
        refine J.gn rfl rfl rfl rfl ?_
        refine J.p (PR.pickT rfl rfl rfl) rfl ?_
        refine J.p (PR.assign rfl) rfl ?_
        refine J.nil ?_
        refine EJ.thenN (hK9 ?_)
        refine CJ.condT rfl ?_
        refine CJ.seq fun _ hK10 _ => ?_
        refine CJ.region ?_
        refine J.p (PR.buildZ bz41) rfl ?_
        refine J.storeAll rfl rfl (by first | exact bytesC_one _ | exact intsC_one _ | exact Term.c_one _ | simp [Value.oneCell']) (by simpa [*] using sz41) (by simp [*]) At.z ?_
        refine J.p (PR.assign rfl) rfl ?_
        refine J.nil ?_
        refine EJ.thenN (hK10 ?_)
        refine CJ.ret ?_
        refine EJ.inR ?_
        refine EJ.thenR ?_
        refine EJ.ret2 rfl (Res.agg rfl At.z (by simpa [*] using ag41)) (Res.tmp rfl) fun w hH => ?_
        replace hH := hH.sublist (.cons _ (.cons _ (.cons _ (List.Sublist.refl _))))
        have hs : wgSt ad af ts n = false := wgSt_1 (bnot_t hg35)
        obtain ⟨e1, e2, e3⟩ := wg_st hz1 hs
        rw [e1, e2, e3]
        exact ⟨none, 0, none, 0, nilVs, rfl, ((hH.ownFsNil 29 88).own0 2 1)⟩
      ·
        try have hg35p := of_decide_eq_false hg35
        refine J.gy (PR.fldA u29 rfl sz27 rfl) rfl rfl rfl hg35 ?_
        refine J.gy (PR.load rfl (.s .z) rfl pl27) rfl rfl rfl hg35 ?_
        refine J.gy (PR.lenSlice u27 rfl rfl) rfl rfl rfl hg35 ?_
        refine J.gy (PR.gtr rfl rfl) rfl rfl rfl hg35 ?_
        refine J.gy (PR.move rfl) rfl rfl rfl hg35 ?_
        refine J.splitB (jd := 40) rfl (fun hg40 => ?_) (fun hg40 => ?_)
        ·
          try have hg40p := of_decide_eq_true hg40
          refine J.gy (PR.move rfl) rfl rfl rfl hg40 ?_
          refine J.gy (PR.move rfl) rfl rfl rfl hg40 ?_
          refine J.gy (PR.add rfl rfl (by first | exact nw _ (by omega) | rfl)) rfl rfl rfl hg40 ?_
          refine J.gy (PR.neq rfl rfl) rfl rfl rfl hg40 ?_
          refine J.gy (PR.pickT rfl hg40 rfl) rfl rfl rfl hg35 ?_
          refine J.p (PR.pickF rfl hg35 rfl) rfl ?_
          refine J.p (PR.move rfl) rfl ?_
          refine J.splitB (jd := 47) rfl (fun hg47 => ?_) (fun hg47 => ?_)
          ·
            try have hg47p := of_decide_eq_true hg47
            refine J.gn rfl rfl rfl hg47 ?_
            refine J.gn rfl rfl rfl hg47 ?_
            refine J.gn rfl rfl rfl hg47 ?_
            refine J.gn rfl rfl rfl hg47 ?_
            refine J.gn rfl rfl rfl hg47 ?_
            refine J.gn rfl rfl rfl hg47 ?_
            refine J.p (PR.pickT rfl hg47 rfl) rfl ?_
            refine J.p (PR.assign rfl) rfl ?_
            refine J.nil ?_
            refine EJ.thenN (hK9 ?_)
            refine CJ.condT rfl ?_
            refine CJ.seq fun _ hK11 _ => ?_
            refine CJ.region ?_
            refine J.p (PR.buildZ bz41) rfl ?_
            refine J.storeAll rfl rfl (by first | exact bytesC_one _ | exact intsC_one _ | exact Term.c_one _ | simp [Value.oneCell']) (by simpa [*] using sz41) (by simp [*]) At.z ?_
            refine J.p (PR.assign rfl) rfl ?_
            refine J.nil ?_
            refine EJ.thenN (hK11 ?_)
            refine CJ.ret ?_
            refine EJ.inR ?_
            refine EJ.thenR ?_
            refine EJ.ret2 rfl (Res.agg rfl At.z (by simpa [*] using ag41)) (Res.tmp rfl) fun w hH => ?_
            replace hH := hH.sublist (.cons _ (.cons _ (.cons _ (List.Sublist.refl _))))
            have hs : wgSt ad af ts n = false := wgSt_2 (fun e => (degF_neg hA.hn hA.hd hts.wfs (bnot_f hg35)).1 e (by omega)) hg47p
            obtain ⟨e1, e2, e3⟩ := wg_st hz1 hs
            rw [e1, e2, e3]
            exact ⟨none, 0, none, 0, nilVs, rfl, ((hH.ownFsNil 29 88).own0 2 1)⟩
          ·
            try have hg47p := of_decide_eq_false hg47
            refine J.gy (PR.loadAll rfl (.s (.s .z)) (by simpa [*] using ag41)) rfl rfl rfl hg47 ?_
            refine J.gy (PR.loadAll rfl (.s .z) (by simpa [*] using ag29)) rfl rfl rfl hg47 ?_
            refine J.gcall fn98 rfl rfl hg47 rfl rfl fun w hH => (l02D_c had haf hts hA.hn hA.hd hA.fok hA.hl hA.kex hFs9 hFk (by omega) hA.len (by omega) hH).mono ?_
            rintro _ w ⟨qo50, co50, rfl, hH⟩
            refine ⟨_, rfl, fun a hF => J.of hF hH ?_⟩
            refine J.gy (PR.fieldV u29 rfl pl27 rfl rfl) rfl rfl rfl hg47 ?_
            refine J.gy (PR.lenSlice u27 rfl rfl) rfl rfl rfl hg47 ?_
            refine J.gy (PR.gtr rfl rfl) rfl rfl rfl hg47 ?_
            refine J.p (PR.pickF rfl hg47 rfl) rfl ?_
            refine J.p (PR.assign rfl) rfl ?_
            refine J.nil ?_
            refine EJ.thenN (hK9 ?_)
            refine CJ.condD rfl (fun h32 => ?_) (fun h32 => ?_)
            ·
              refine CJ.seq fun _ hK12 _ => ?_
              refine CJ.region ?_
              refine J.p (PR.buildZ bz41) rfl ?_
              refine J.storeAll rfl rfl (by first | exact bytesC_one _ | exact intsC_one _ | exact Term.c_one _ | simp [Value.oneCell']) (by simpa [*] using sz41) (by simp [*]) (.s .z) ?_
              refine J.p (PR.assign rfl) rfl ?_
              refine J.nil ?_
              refine EJ.thenN (hK12 ?_)
              refine CJ.ret ?_
              refine EJ.inR ?_
              refine EJ.thenR ?_
              refine EJ.ret2 rfl (Res.agg rfl (.s .z) (by simpa [*] using ag41)) (Res.tmp rfl) fun w hH => ?_
              replace hH := hH.sublist (.cons _ (.cons _ (.cons _ (.cons _ (List.Sublist.refl _)))))
              have hs : wgSt ad af ts n = false := wgSt_3 (by rw [ofS_len] at h32; omega)
              obtain ⟨e1, e2, e3⟩ := wg_st hz1 hs
              rw [e1, e2, e3]
              exact ⟨none, 0, none, 0, nilVs, rfl, ((hH.ownFsNil 29 88).own0 2 1)⟩
            ·
              refine CJ.seq fun _ hK13 _ => ?_
              refine CJ.region ?_
              refine J.p (PR.fldA u41 rfl sz22 rfl) rfl ?_
              refine J.p (PR.load rfl (.s (.s (.s .z))) rfl pl22) rfl ?_
              refine J.p (PR.lenSlice u22 rfl rfl) rfl ?_
              refine J.p (PR.eql rfl rfl) rfl ?_
              refine J.p (PR.assign rfl) rfl ?_
              refine J.nil ?_
              refine EJ.thenN (hK13 ?_)
              refine CJ.condD rfl (fun h56 => ?_) (fun h56 => ?_)
              ·
                refine CJ.seq fun _ hK14 _ => ?_
                refine CJ.region ?_
                refine J.p (PR.buildZ bz41) rfl ?_
                refine J.storeAll rfl rfl (by first | exact bytesC_one _ | exact intsC_one _ | exact Term.c_one _ | simp [Value.oneCell']) (by simpa [*] using sz41) (by simp [*]) (.s .z) ?_
                refine J.p (PR.assign rfl) rfl ?_
                refine J.nil ?_
                refine EJ.thenN (hK14 ?_)
                refine CJ.ret ?_
                refine EJ.inR ?_
                refine EJ.thenR ?_
                refine EJ.ret2 rfl (Res.agg rfl (.s .z) (by simpa [*] using ag41)) (Res.tmp rfl) fun w hH => ?_
                replace hH := hH.sublist (.cons _ (.cons _ (.cons _ (.cons _ (List.Sublist.refl _)))))
                have hs : wgSt ad af ts n = true := wgSt_4 (bnot_f hg35) (.inr (Decidable.not_not.1 hg47p)) (by rw [ofS_len] at h32; omega)
                obtain ⟨e1, e2, e3⟩ := wg_lim hz1 hs (by omega)
                rw [e1, e2, e3]
                exact ⟨none, 0, none, 0, nilVs, rfl, ((hH.ownFsNil 29 88).own0 2 1)⟩
              ·
                refine CJ.skip ?_
                refine EJ.inN ?_
                refine EJ.thenN (hK8 ?_)
                refine CJ.seq fun _ hK15 _ => ?_
                refine CJ.region ?_
                refine J.p (PR.loadAll rfl (.s (.s (.s .z))) (by simpa [*] using ag41)) rfl ?_
                refine J.p (PR.move rfl) rfl ?_
                refine J.p (PR.loadAll rfl (.s (.s .z)) (by simpa [*] using ag29)) rfl ?_
                refine J.call fn120 rfl rfl fun w hH => (l02With_c had haf hts (by omega) hl9 (by omega) hH).mono ?_
                rintro _ w ⟨qdo65, cdo65, qfo65, cfo65, vso65, rfl, hH⟩
                refine ⟨_, rfl, fun a hF => J.of hF hH ?_⟩
                refine J.storeAll rfl rfl (by first | exact bytesC_one _ | exact intsC_one _ | exact Term.c_one _ | simp [Value.oneCell']) (by simpa [*] using sz41) (by simp [*]) (.s (.s (.s .z))) ?_
                refine J.p (PR.assign rfl) rfl ?_
                refine J.nil ?_
                refine EJ.thenN (hK15 ?_)
                refine CJ.ret ?_
                refine EJ.ret2 rfl (Res.agg rfl (.s (.s (.s .z))) (by simpa [*] using ag41)) (Res.tmp rfl) fun w hH => ?_
                replace hH := hH.sublist (.cons_cons _ (.cons_cons _ (.cons _ (.cons _ (.cons _ (.cons _ (List.Sublist.refl _)))))))
                have hs : wgSt ad af ts n = true := wgSt_4 (bnot_f hg35) (.inr (Decidable.not_not.1 hg47p)) (by rw [ofS_len] at h32; omega)
                obtain ⟨e1, e2, e3⟩ := wg_fin hz1 hs (by omega)
                rw [e1, e2, e3]
                exact ⟨_, _, _, _, _, rfl, hH⟩
        ·
          try have hg40p := of_decide_eq_false hg40
          refine J.gn rfl rfl rfl hg40 ?_
          refine J.gn rfl rfl rfl hg40 ?_
          refine J.gn rfl rfl rfl hg40 ?_
          refine J.gn rfl rfl rfl hg40 ?_
          refine J.gy (PR.pickF rfl hg40 rfl) rfl rfl rfl hg35 ?_
          refine J.p (PR.pickF rfl hg35 rfl) rfl ?_
          refine J.p (PR.move rfl) rfl ?_
          refine J.gy (PR.loadAll rfl (.s (.s .z)) (by simpa [*] using ag41)) rfl rfl rfl rfl ?_
          refine J.gy (PR.loadAll rfl (.s .z) (by simpa [*] using ag29)) rfl rfl rfl rfl ?_
          refine J.gcall fn98 rfl rfl rfl rfl rfl fun w hH => (l02D_c had haf hts hA.hn hA.hd hA.fok hA.hl hA.kex hFs9 hFk (by omega) hA.len (by omega) hH).mono ?_
          rintro _ w ⟨qo50, co50, rfl, hH⟩
          refine ⟨_, rfl, fun a hF => J.of hF hH ?_⟩
          refine J.gy (PR.fieldV u29 rfl pl27 rfl rfl) rfl rfl rfl rfl ?_
          refine J.gy (PR.lenSlice u27 rfl rfl) rfl rfl rfl rfl ?_
          refine J.gy (PR.gtr rfl rfl) rfl rfl rfl rfl ?_
          refine J.p (PR.pickF rfl rfl rfl) rfl ?_
          refine J.p (PR.assign rfl) rfl ?_
          refine J.nil ?_
          refine EJ.thenN (hK9 ?_)
          refine CJ.condD rfl (fun h32 => ?_) (fun h32 => ?_)
          ·
            refine CJ.seq fun _ hK16 _ => ?_
            refine CJ.region ?_
            refine J.p (PR.buildZ bz41) rfl ?_
            refine J.storeAll rfl rfl (by first | exact bytesC_one _ | exact intsC_one _ | exact Term.c_one _ | simp [Value.oneCell']) (by simpa [*] using sz41) (by simp [*]) (.s .z) ?_
            refine J.p (PR.assign rfl) rfl ?_
            refine J.nil ?_
            refine EJ.thenN (hK16 ?_)
            refine CJ.ret ?_
            refine EJ.inR ?_
            refine EJ.thenR ?_
            refine EJ.ret2 rfl (Res.agg rfl (.s .z) (by simpa [*] using ag41)) (Res.tmp rfl) fun w hH => ?_
            replace hH := hH.sublist (.cons _ (.cons _ (.cons _ (.cons _ (List.Sublist.refl _)))))
            have hs : wgSt ad af ts n = false := wgSt_3 (by rw [ofS_len] at h32; omega)
            obtain ⟨e1, e2, e3⟩ := wg_st hz1 hs
            rw [e1, e2, e3]
            exact ⟨none, 0, none, 0, nilVs, rfl, ((hH.ownFsNil 29 88).own0 2 1)⟩
          ·
            refine CJ.seq fun _ hK17 _ => ?_
            refine CJ.region ?_
            refine J.p (PR.fldA u41 rfl sz22 rfl) rfl ?_
            refine J.p (PR.load rfl (.s (.s (.s .z))) rfl pl22) rfl ?_
            refine J.p (PR.lenSlice u22 rfl rfl) rfl ?_
            refine J.p (PR.eql rfl rfl) rfl ?_
            refine J.p (PR.assign rfl) rfl ?_
            refine J.nil ?_
            refine EJ.thenN (hK17 ?_)
            refine CJ.condD rfl (fun h56 => ?_) (fun h56 => ?_)
            ·
              refine CJ.seq fun _ hK18 _ => ?_
              refine CJ.region ?_
              refine J.p (PR.buildZ bz41) rfl ?_
              refine J.storeAll rfl rfl (by first | exact bytesC_one _ | exact intsC_one _ | exact Term.c_one _ | simp [Value.oneCell']) (by simpa [*] using sz41) (by simp [*]) (.s .z) ?_
              refine J.p (PR.assign rfl) rfl ?_
              refine J.nil ?_
              refine EJ.thenN (hK18 ?_)
              refine CJ.ret ?_
              refine EJ.inR ?_
              refine EJ.thenR ?_
              refine EJ.ret2 rfl (Res.agg rfl (.s .z) (by simpa [*] using ag41)) (Res.tmp rfl) fun w hH => ?_
              replace hH := hH.sublist (.cons _ (.cons _ (.cons _ (.cons _ (List.Sublist.refl _)))))
              have hs : wgSt ad af ts n = true := wgSt_4 (bnot_f hg35) (.inl ((degF_neg hA.hn hA.hd hts.wfs (bnot_f hg35)).2 (by omega))) (by rw [ofS_len] at h32; omega)
              obtain ⟨e1, e2, e3⟩ := wg_lim hz1 hs (by omega)
              rw [e1, e2, e3]
              exact ⟨none, 0, none, 0, nilVs, rfl, ((hH.ownFsNil 29 88).own0 2 1)⟩
            ·
              refine CJ.skip ?_
              refine EJ.inN ?_
              refine EJ.thenN (hK8 ?_)
              refine CJ.seq fun _ hK19 _ => ?_
              refine CJ.region ?_
              refine J.p (PR.loadAll rfl (.s (.s (.s .z))) (by simpa [*] using ag41)) rfl ?_
              refine J.p (PR.move rfl) rfl ?_
              refine J.p (PR.loadAll rfl (.s (.s .z)) (by simpa [*] using ag29)) rfl ?_
              refine J.call fn120 rfl rfl fun w hH => (l02With_c had haf hts (by omega) hl9 (by omega) hH).mono ?_
              rintro _ w ⟨qdo65, cdo65, qfo65, cfo65, vso65, rfl, hH⟩
              refine ⟨_, rfl, fun a hF => J.of hF hH ?_⟩
              refine J.storeAll rfl rfl (by first | exact bytesC_one _ | exact intsC_one _ | exact Term.c_one _ | simp [Value.oneCell']) (by simpa [*] using sz41) (by simp [*]) (.s (.s (.s .z))) ?_
              refine J.p (PR.assign rfl) rfl ?_
              refine J.nil ?_
              refine EJ.thenN (hK19 ?_)
              refine CJ.ret ?_
              refine EJ.ret2 rfl (Res.agg rfl (.s (.s (.s .z))) (by simpa [*] using ag41)) (Res.tmp rfl) fun w hH => ?_
              replace hH := hH.sublist (.cons_cons _ (.cons_cons _ (.cons _ (.cons _ (.cons _ (.cons _ (List.Sublist.refl _)))))))
              have hs : wgSt ad af ts n = true := wgSt_4 (bnot_f hg35) (.inl ((degF_neg hA.hn hA.hd hts.wfs (bnot_f hg35)).2 (by omega))) (by rw [ofS_len] at h32; omega)
              obtain ⟨e1, e2, e3⟩ := wg_fin hz1 hs (by omega)
              rw [e1, e2, e3]
              exact ⟨_, _, _, _, _, rfl, hH⟩
set_option maxHeartbeats 4000000 in
set_option maxRecDepth 10000 in
theorem With_c {B : World} {H0 H : HP} {L : List SA} {w : World} {qad qaf : Option Addr} {cad caf : Nat} {ad : List Int} {af : List (List Term)} {n : Int} {qts : Option Addr} {cts : Nat} {ts : List Term}  (had : Ints H qad ad) (haf : Forms H qaf af) (hts : Terms H qts ts) (hn8 : ad.length ≤ 1048576) (hn9 : af.length ≤ 1048576) (hl9 : ∀ i, i < af.length → (fm af i).length ≤ 1048576) (hlt : ts.length ≤ 1048576) (hct : ts.length ≤ cts) (hH : Hp B H0 H L w) :
    Calls Try.prog 61 [.agg [.slice qad ad.length cad, .slice qaf af.length caf].toArray, .int .i64 n, .agg [.slice qts ts.length cts].toArray].toArray w fun e w' => ∃ qd cd qf cf vs, e = .returned (.tuple #[.agg [.slice qd (wgD ad af ts n).length cd, .slice qf (wgF ad af ts n).length cf].toArray, .int .i64 (wgC ad af ts n)]) ∧ Hp B H0 H (own 2 1 qd (wgD ad af ts n).length cd (intsC (wgD ad af ts n)) :: ownFs 29 88 qf cf vs (wgF ad af ts n) :: L) w' := by
  refine CJ.enter Try.func61 rfl 43 rfl rfl [(0, .agg [.slice qad ad.length cad, .slice qaf af.length caf].toArray), (1, .int .i64 n), (2, .agg [.slice qts ts.length cts].toArray)] rfl hH ?_
  have hw0 := hH.old
  have hw1 := hH.le
  clear hH
  refine CJ.seq fun _ hK1 _ => ?_
  refine CJ.region ?_
  refine J.box rfl rfl rfl fun g3 => ?_
  refine J.freezeRow .z fun H3 hle3 hc3 => ?_
  replace had := had.le hle3
  replace haf := haf.le hle3
  replace hts := hts.le hle3
  have pad : CellAt H3 g3 0 (.slice qad ad.length cad) := hc3 0 _ rfl
  have paf : CellAt H3 g3 1 (.slice qaf af.length caf) := hc3 1 _ rfl
  refine J.box rfl rfl rfl fun g5 => ?_
  refine J.alloc ze41 rfl fun g6 => ?_
  refine J.p (PR.assign rfl) rfl ?_
  refine J.nil ?_
  refine EJ.thenN (hK1 ?_)
  refine CJ.seq fun _ hK2 _ => ?_
  refine CJ.region ?_
  refine J.p (PR.loadAll rfl (.s .z) (by simpa [*] using ag29)) rfl ?_
  refine J.lit1 u39 ze29 sz29 rfl rfl rfl rfl rfl rfl fun g10 => ?_
  refine J.freezeRow .z fun H8 hle8 hc8 => ?_
  replace had := had.le hle8
  replace haf := haf.le hle8
  replace hts := hts.le hle8
  replace pad := pad.le hle8
  replace paf := paf.le hle8
  have hFs := forms_one (hc8 0 _ rfl) hct hts
  refine J.call fn99 rfl rfl fun w hH => (algebraCode_c pad paf had haf hFs hn8 hn9 hl9 (by simp) (len_one (by omega)) hH).mono ?_
  rintro _ w ⟨rfl, hH⟩
  refine ⟨_, rfl, fun a hF => J.of hF hH ?_⟩
  refine J.p (PR.move rfl) rfl ?_
  refine J.call fn86 rfl rfl fun w hH => (within_c  hH).mono ?_
  rintro _ w ⟨rfl, hH⟩
  refine ⟨_, rfl, fun a hF => J.of hF hH ?_⟩
  refine J.p (PR.not rfl) rfl ?_
  refine J.call fn75 rfl rfl fun w hH => (when_c  hH).mono ?_
  rintro _ w ⟨rfl, hH⟩
  refine ⟨_, rfl, fun a hF => J.of hF hH ?_⟩
  refine J.litI2 u22 ze2 sz2 rfl rfl rfl fun g16 => ?_
  refine J.call fn74 rfl rfl fun w hH => hH.lend .z fun Hl1 hle1 hA1 hB1 hH => (first_c (own_ints hA1) (by simp) hH).mono ?_
  rintro _ w ⟨rfl, hH⟩
  replace hH := hB1 _ _ hH
  refine ⟨_, rfl, fun a hF => J.of hF hH ?_⟩
  refine J.p (PR.assign rfl) rfl ?_
  refine J.nil ?_
  refine EJ.thenN (hK2 ?_)
  refine CJ.cutU (σ := Int) (fun (cd : Int) => [(8, .int .i64 cd)]) (fun (cd : Int) => H8) (fun (cd : Int) => obj g6 (.cells [.slice none 0 0, .slice none 0 0].toArray 41 (0, 0)) :: obj g5 (.cells [.slice qts ts.length cts].toArray 29 (0, 0)) :: L) (fun (cd : Int) => cd = wg2 ad af ts n) ?_ ?_
  ·
    intro _ hMt1
    refine CJ.seq fun _ hK3 _ => ?_
    refine CJ.region ?_
    refine J.p (PR.move rfl) rfl ?_
    refine J.p (PR.eql rfl rfl) rfl ?_
    refine J.p (PR.move rfl) rfl ?_
    refine J.splitB (jd := 20) rfl (fun hg20 => ?_) (fun hg20 => ?_)
    ·
      try have hg20p := of_decide_eq_true hg20
      have hw20 := hg20p
      rw [wg1_first] at hw20
      obtain ⟨hAF0, hIn⟩ := wg1_z hw20
      have hAF := Bool.and_eq_true_iff.1 hAF0
      have hA := isAlg_ok hAF.1 haf.wfss
      have hF := hAF.2
      have hF4 := isForm_len4 hF
      have hFs9 := isForm_sok hts.wfs hF
      have hFk := isForm_kex hA.hd hA.hn hts.wfs hF
      have hn12 := wgIn_bd hIn
      have hPl := isAlg_len hAF.1
      refine J.gy (PR.fldA u41 rfl sz22 rfl) rfl rfl rfl hg20 ?_
      refine J.gy (PR.loadH (q := some ⟨g3, 0, none⟩) (k := 0) rfl pad pl22) rfl rfl rfl hg20 ?_
      refine J.gy (PR.loadAll rfl (.s (.s .z)) (by simpa [*] using ag29)) rfl rfl rfl hg20 ?_
      refine J.gy (PR.move rfl) rfl rfl rfl hg20 ?_
      refine J.gy (PR.add rfl rfl (by first | exact nw _ (by omega) | rfl)) rfl rfl rfl hg20 ?_
      refine J.gcall fn92 rfl rfl hg20 rfl rfl fun w hH => (isOfDegree_c had hts hA.hn hA.hd (by omega) hH).mono ?_
      rintro _ w ⟨rfl, hH⟩
      refine ⟨_, rfl, fun a hF => J.of hF hH ?_⟩
      refine J.gy (PR.not rfl) rfl rfl rfl hg20 ?_
      refine J.gy (PR.move rfl) rfl rfl rfl hg20 ?_
      refine J.splitB (jd := 28) rfl (fun hg28 => ?_) (fun hg28 => ?_)
      ·
        try have hg28p := of_decide_eq_true hg28
        refine J.gn rfl rfl rfl hg28 ?_
        refine J.gn rfl rfl rfl hg28 ?_
        refine J.gn rfl rfl rfl hg28 ?_
        refine J.gy (PR.pickT rfl hg28 rfl) rfl rfl rfl hg20 ?_
        refine J.p (PR.pickT rfl hg20 rfl) rfl ?_
        refine J.nil ?_
        refine EJ.thenN (hK3 ?_)
        refine CJ.condT rfl ?_
        refine CJ.region ?_
        refine J.p (PR.assign rfl) rfl ?_
        refine J.nil ?_
        refine EJ.thenN ?_
        refine EJ.drop .z ?_
        exact hMt1 (5 : Int) (wg2_a hw20 (wgSt_0 (bnot_t hg28))) 17 rfl rfl ⟨rfl, trivial⟩ rfl rfl
      ·
        try have hg28p := of_decide_eq_false hg28
        refine J.gy (PR.loadAll rfl (.s (.s .z)) (by simpa [*] using ag29)) rfl rfl rfl hg28 ?_
        refine J.gcall fn100 rfl rfl hg28 rfl rfl fun w hH => (isClosed_c pad paf had haf hts hA.hn hA.hd hA.fok hA.hl hFs9 (Ex.occ hFk hA.hl) (by omega) (by omega) hH).mono ?_
        rintro _ w ⟨rfl, hH⟩
        refine ⟨_, rfl, fun a hF => J.of hF hH ?_⟩
        refine J.gy (PR.not rfl) rfl rfl rfl hg28 ?_
        refine J.gy (PR.pickF rfl hg28 rfl) rfl rfl rfl hg20 ?_
        refine J.p (PR.pickT rfl hg20 rfl) rfl ?_
        refine J.nil ?_
        refine EJ.thenN (hK3 ?_)
        refine CJ.cond rfl (fun h33 => ?_) (fun h33 => ?_)
        ·
          refine CJ.region ?_
          refine J.p (PR.assign rfl) rfl ?_
          refine J.nil ?_
          refine EJ.thenN ?_
          refine EJ.drop .z ?_
          exact hMt1 (5 : Int) (wg2_a hw20 (wgSt_3 (of_decide_eq_false (bnot_t h33)))) 17 rfl rfl ⟨rfl, trivial⟩ rfl rfl
        ·
          refine CJ.skip ?_
          refine EJ.thenN ?_
          refine EJ.drop .z ?_
          exact hMt1 (firstOf [codeA ad af [ts], if !(decide (1 ≤ n) && decide (n ≤ 12)) then 2 else 0]) (wg1_first.trans (wg2_b hw20 (wgSt_5 (bnot_f hg28) (of_decide_eq_true (bnot_f h33))))) 16 rfl rfl ⟨rfl, trivial⟩ rfl rfl
    ·
      try have hg20p := of_decide_eq_false hg20
      have hw20 := hg20p
      rw [wg1_first] at hw20
      refine J.gn rfl rfl rfl hg20 ?_
      refine J.gn rfl rfl rfl hg20 ?_
      refine J.gn rfl rfl rfl hg20 ?_
      refine J.gn rfl rfl rfl hg20 ?_
      refine J.gn rfl rfl rfl hg20 ?_
      refine J.gn rfl rfl rfl hg20 ?_
      refine J.gn rfl rfl rfl hg20 ?_
      refine J.gn rfl rfl rfl hg20 ?_
      refine J.gu rfl rfl rfl ?_
      refine J.gu rfl rfl rfl ?_
      refine J.gu rfl rfl rfl ?_
      refine J.gn rfl rfl rfl hg20 ?_
      refine J.p (PR.pickF rfl hg20 rfl) rfl ?_
      refine J.nil ?_
      refine EJ.thenN (hK3 ?_)
      refine CJ.condF rfl ?_
      refine CJ.skip ?_
      refine EJ.thenN ?_
      refine EJ.drop .z ?_
      exact hMt1 (firstOf [codeA ad af [ts], if !(decide (1 ≤ n) && decide (n ≤ 12)) then 2 else 0]) (wg1_first.trans (wg2_c hw20)) 16 rfl rfl ⟨rfl, trivial⟩ rfl rfl
  ·
    rintro cd hcd
    refine CJ.seq fun _ hK4 _ => ?_
    refine CJ.seq fun _ hK5 _ => ?_
    refine CJ.region ?_
    refine J.p (PR.move rfl) rfl ?_
    refine J.p (PR.neq rfl rfl) rfl ?_
    refine J.nil ?_
    refine EJ.thenN (hK5 ?_)
    refine CJ.condD rfl (fun h35 => ?_) (fun h35 => ?_)
    ·
      refine CJ.seq fun _ hK6 _ => ?_
      refine CJ.region ?_
      refine J.p (PR.buildZ bz41) rfl ?_
      refine J.p (PR.move rfl) rfl ?_
      refine J.storeAll rfl rfl (by first | exact bytesC_one _ | exact intsC_one _ | exact Term.c_one _ | simp [Value.oneCell']) (by simpa [*] using sz41) (by simp [*]) At.z ?_
      refine J.p (PR.assign rfl) rfl ?_
      refine J.nil ?_
      refine EJ.thenN (hK6 ?_)
      refine CJ.ret ?_
      refine EJ.thenR ?_
      refine EJ.ret2 rfl (Res.agg rfl At.z (by simpa [*] using ag41)) (Res.tmp rfl) fun w hH => ?_
      replace hH := hH.sublist (.cons _ (.cons _ (List.Sublist.refl _)))
      have hno : wg2 ad af ts n ≠ 0 := by rw [← hcd]; exact h35
      rw [hcd]
      obtain ⟨e1, e2, e3⟩ := wg_bad hno
      rw [e1, e2, e3]
      exact ⟨none, 0, none, 0, nilVs, rfl, ((hH.ownFsNil 29 88).own0 2 1).weaken (hle3.trans hle8) hw0 hw1⟩
    ·
      have hok : wg2 ad af ts n = 0 := by have := hcd; omega
      have hz1 := wg2_z hok
      obtain ⟨hAF0, hIn⟩ := wg1_z hz1
      have hAF := Bool.and_eq_true_iff.1 hAF0
      have hA := isAlg_ok hAF.1 haf.wfss
      have hF := hAF.2
      have hF4 := isForm_len4 hF
      have hFs9 := isForm_sok hts.wfs hF
      have hFk := isForm_kex hA.hd hA.hn hts.wfs hF
      have hn12 := wgIn_bd hIn
      have hPl := isAlg_len hAF.1
      refine CJ.skip ?_
      refine EJ.thenN (hK4 ?_)
      refine CJ.seq fun _ hK7 _ => ?_
      refine CJ.region ?_
      refine J.p (PR.move rfl) rfl ?_
      refine J.p (PR.loadAll rfl (.s .z) (by simpa [*] using ag29)) rfl ?_
      refine J.call fn121 rfl rfl fun w hH => (withGenerator_c pad paf had haf hts (by omega) (by omega) hl9 hlt hct hH).mono ?_
      rintro _ w ⟨qdo40, cdo40, qfo40, cfo40, vso40, rfl, hH⟩
      refine ⟨_, rfl, fun a hF => J.of hF hH ?_⟩
      refine J.p (PR.extract rfl rfl) rfl ?_
      refine J.p (PR.extract rfl rfl) rfl ?_
      refine J.storeAll rfl rfl (by first | exact bytesC_one _ | exact intsC_one _ | exact Term.c_one _ | simp [Value.oneCell']) (by simpa [*] using sz41) (by simp [*]) (.s (.s .z)) ?_
      refine J.p (PR.assign rfl) rfl ?_
      refine J.nil ?_
      refine EJ.thenN (hK7 ?_)
      refine CJ.ret ?_
      refine EJ.ret2 rfl (Res.agg rfl (.s (.s .z)) (by simpa [*] using ag41)) (Res.tmp rfl) fun w hH => ?_
      replace hH := hH.sublist (.cons_cons _ (.cons_cons _ (.cons _ (.cons _ (List.Sublist.refl _)))))
      obtain ⟨e1, e2, e3⟩ := wg_ok hok
      rw [e1, e2, e3]
      exact ⟨_, _, _, _, _, rfl, hH.weaken (hle3.trans hle8) hw0 hw1⟩
end Go.Proofs.Ytpojpokldncglaa.G
namespace Go.Proofs.Ytpojpokldncglaa.G
open Go Go.RowKit
namespace Lr
theorem u25 : Try.prog.underlying 25 = some (TypeDesc.struct #[{ name := "Terms", type := 23, offset := 0, embedded := false, tag := "", pkgPath := "", byteOffset := 0 }]) := by kernel_rfl
theorem u29 : Try.prog.underlying 29 = some (TypeDesc.struct #[{ name := "Terms", type := 27, offset := 0, embedded := false, tag := "", pkgPath := "", byteOffset := 0 }]) := by kernel_rfl
theorem u41 : Try.prog.underlying 41 = some (TypeDesc.struct #[{ name := "Degrees", type := 22, offset := 0, embedded := false, tag := "", pkgPath := "", byteOffset := 0 }, { name := "Images", type := 39, offset := 1, embedded := false, tag := "", pkgPath := "", byteOffset := 24 }]) := by kernel_rfl
theorem u49 : Try.prog.underlying 49 = some (TypeDesc.struct #[{ name := "Degrees", type := 22, offset := 0, embedded := false, tag := "", pkgPath := "", byteOffset := 0 }, { name := "Images", type := 47, offset := 1, embedded := false, tag := "", pkgPath := "", byteOffset := 24 }]) := by kernel_rfl
theorem sz29 : Size Try.prog 29 1 := by unfold Size; kernel_rfl
theorem sz41 : Size Try.prog 41 2 := by unfold Size; kernel_rfl
theorem ze29 : Zero Try.prog 29 [.slice none 0 0] := by unfold Zero; kernel_rfl
theorem ze41 : Zero Try.prog 41 [.slice none 0 0, .slice none 0 0] := by unfold Zero; kernel_rfl
theorem ag25 : Agg Try.prog 25 1 := ⟨_, u25, rfl, by kernel_rfl⟩
theorem ag29 : Agg Try.prog 29 1 := ⟨_, u29, rfl, by kernel_rfl⟩
theorem ag41 : Agg Try.prog 41 2 := ⟨_, u41, rfl, by kernel_rfl⟩
theorem ag49 : Agg Try.prog 49 2 := ⟨_, u49, rfl, by kernel_rfl⟩
theorem fn18 : Fn Try.prog 18 := ⟨_, Try.func18, by kernel_rfl, rfl⟩
theorem fn21 : Fn Try.prog 21 := ⟨_, Try.func21, by kernel_rfl, rfl⟩
theorem fn23 : Fn Try.prog 23 := ⟨_, Try.func23, by kernel_rfl, rfl⟩
theorem fn26 : Fn Try.prog 26 := ⟨_, Try.func26, by kernel_rfl, rfl⟩
theorem fn30 : Fn Try.prog 30 := ⟨_, Try.func30, by kernel_rfl, rfl⟩
theorem fn31 : Fn Try.prog 31 := ⟨_, Try.func31, by kernel_rfl, rfl⟩
theorem fn32 : Fn Try.prog 32 := ⟨_, Try.func32, by kernel_rfl, rfl⟩
theorem fn33 : Fn Try.prog 33 := ⟨_, Try.func33, by kernel_rfl, rfl⟩
theorem fn35 : Fn Try.prog 35 := ⟨_, Try.func35, by kernel_rfl, rfl⟩
theorem fn60 : Fn Try.prog 60 := ⟨_, Try.func60, by kernel_rfl, rfl⟩
theorem fn61 : Fn Try.prog 61 := ⟨_, Try.func61, by kernel_rfl, rfl⟩
theorem foll0 : Try.prog.follows .mixedOrders = true := by kernel_rfl
end Lr
open Lr
set_option maxHeartbeats 8000000 in
set_option maxRecDepth 10000 in
theorem lawWith_c {B : World} {H0 H : HP} {L : List SA} {w : World} {qad qaf : Option Addr} {cad caf : Nat} {ad : List Int} {af : List (List Term)} {n : Int} {qts : Option Addr} {cts : Nat} {ts : List Term}  (had : Ints H qad ad) (haf : Forms H qaf af) (hts : Terms H qts ts) (hn : ad.length ≤ 9223372036854775807 ∧ af.length ≤ 9223372036854775807) (hl : ∀ i, i < af.length → (fm af i).length ≤ 9223372036854775807) (hlt : ts.length ≤ 9223372036854775807) (hH : Hp B H0 H L w) :
    Calls Try.prog 14 [.agg [.slice qad ad.length cad, .slice qaf af.length caf].toArray, .int .i64 n, .agg [.slice qts ts.length cts].toArray].toArray w fun e w' => e = .returned (.bool true) ∧ Below B.heap.size B w' := by
  refine CJ.enter Try.func14 rfl 124 rfl rfl [(0, .agg [.slice qad ad.length cad, .slice qaf af.length caf].toArray), (1, .int .i64 n), (2, .agg [.slice qts ts.length cts].toArray)] rfl hH ?_
  clear hH
  obtain ⟨f1, f2, f3⟩ := wg_len ad af ts n
  refine CJ.seq fun _ hK1 _ => ?_
  refine CJ.region ?_
  refine J.box rfl rfl rfl fun g3 => ?_
  refine J.box rfl rfl rfl fun g5 => ?_
  refine J.p (PR.assign rfl) rfl ?_
  refine J.nil ?_
  refine EJ.thenN (hK1 ?_)
  refine CJ.seq fun _ hK2 _ => ?_
  refine CJ.region ?_
  refine J.p (PR.assign rfl) rfl ?_
  refine J.nil ?_
  refine EJ.thenN (hK2 ?_)
  refine CJ.seq fun _ hK3 _ => ?_
  refine CJ.region ?_
  refine J.p (PR.loadAll rfl (.s .z) (by simpa [*] using ag49)) rfl ?_
  refine J.p (PR.move rfl) rfl ?_
  refine J.call fn33 rfl rfl fun w hH => (szAlgebra_c had haf (by omega) hl hH).mono ?_
  rintro _ w ⟨rfl, hH⟩
  refine ⟨_, rfl, fun a hF => J.of hF hH ?_⟩
  refine J.p (PR.assign rfl) rfl ?_
  refine J.nil ?_
  refine EJ.thenN (hK3 ?_)
  refine CJ.seq fun _ hK4 _ => ?_
  refine CJ.seq fun _ hK5 _ => ?_
  refine CJ.region ?_
  refine J.p (PR.move rfl) rfl ?_
  refine J.p (PR.lss rfl rfl) rfl ?_
  refine J.nil ?_
  refine EJ.thenN (hK5 ?_)
  refine CJ.condD rfl (fun h11 => ?_) (fun h11 => ?_)
  ·
    refine CJ.seq fun _ hK6 _ => ?_
    refine CJ.region ?_
    refine J.p (PR.assign rfl) rfl ?_
    refine J.nil ?_
    refine EJ.thenN (hK6 ?_)
    refine CJ.ret ?_
    refine EJ.thenR ?_
    refine EJ.ret1 rfl (Res.tmp rfl) fun w hH => ?_
    replace hH := hH.tail
    replace hH := hH.tail
    first | exact ⟨rfl, hH.below⟩ | exact absurd rfl h11p | exact absurd rfl h11 | (exfalso; omega) | (simp at h11; done)
  ·
    have hsz : ad.length + af.length + tot af ≤ 1048576 := by unfold szv at h11; split at h11 <;> omega
    have hl6 : ∀ i, i < af.length → (fm af i).length ≤ 1048576 := fun i hi => by have := tot_fm hi; omega
    refine CJ.skip ?_
    refine EJ.thenN (hK4 ?_)
    refine CJ.seq fun _ hK7 _ => ?_
    refine CJ.region ?_
    refine J.p (PR.loadAll rfl At.z (by simpa [*] using ag25)) rfl ?_
    refine J.p (PR.move rfl) rfl ?_
    refine J.call fn18 rfl rfl fun w hH => (szForm_c hts (by unfold szv at h11 ⊢; split at h11 <;> split <;> omega) hH).mono ?_
    rintro _ w ⟨rfl, hH⟩
    refine ⟨_, rfl, fun a hF => J.of hF hH ?_⟩
    refine J.p (PR.assign rfl) rfl ?_
    refine J.nil ?_
    refine EJ.thenN (hK7 ?_)
    refine CJ.seq fun _ hK8 _ => ?_
    refine CJ.seq fun _ hK9 _ => ?_
    refine CJ.region ?_
    refine J.p (PR.move rfl) rfl ?_
    refine J.p (PR.lss rfl rfl) rfl ?_
    refine J.nil ?_
    refine EJ.thenN (hK9 ?_)
    refine CJ.condD rfl (fun h21 => ?_) (fun h21 => ?_)
    ·
      refine CJ.seq fun _ hK10 _ => ?_
      refine CJ.region ?_
      refine J.p (PR.assign rfl) rfl ?_
      refine J.nil ?_
      refine EJ.thenN (hK10 ?_)
      refine CJ.ret ?_
      refine EJ.thenR ?_
      refine EJ.ret1 rfl (Res.tmp rfl) fun w hH => ?_
      replace hH := hH.tail
      replace hH := hH.tail
      first | exact ⟨rfl, hH.below⟩ | exact absurd rfl h21p | exact absurd rfl h21 | (exfalso; omega) | (simp at h21; done)
    ·
      have hts6 : ts.length ≤ 1048576 := by unfold szv at h21; split at h21 <;> (try split at h21) <;> omega
      have f4 : ∀ i, i < (wgF ad af ts n).length → (fm (wgF ad af ts n) i).length ≤ 9223372036854775807 := fun i hi => by have := tot_fm hi; omega
      refine CJ.skip ?_
      refine EJ.thenN (hK8 ?_)
      refine CJ.seq fun _ hK11 _ => ?_
      refine CJ.openR (Rs := [_, _]) 12 [[], [0], [], [], [0, 1, 3], [0, 1, 2, 3, 4], [0, 1, 2, 3, 4, 5], [0, 1, 2, 3, 4, 5, 6], [0, 1, 2, 3, 4, 5, 6], [], [0, 1, 2, 3, 4, 5, 6, 7, 9], [0, 1, 2, 3, 4, 5, 6, 7, 8, 9, 10]] [[13], [], [], [12], [], [1, 4], [], [], [], [], [], []] [[], [], [], [], [], [], [], [], [], [], [9], []] rfl rfl (by kernel_rfl) ?_
      apply GJ.st0 1 rfl
      · intro gh; conv => lhs; simp only [slotsZ, zlAt, vs0, resL, at2, eq_self, Nat.reduceEqDiff, reduceIte, Nat.reduceSub, Nat.reduceAdd, List.cons_append, List.nil_append]
        all_goals rfl
      · intro gh X; conv => lhs; simp only [slotsZ, zlAt, vs0, resL, at2, eq_self, Nat.reduceEqDiff, reduceIte, Nat.reduceSub, Nat.reduceAdd, List.cons_append, List.nil_append]
        all_goals rfl
      · intro gh X; conv => lhs; simp only [slotsZ, zlAt, vs0, resL, at2, eq_self, Nat.reduceEqDiff, reduceIte, Nat.reduceSub, Nat.reduceAdd, List.cons_append, List.nil_append]
        all_goals rfl
      ·
        intro gh X K zq zc zq2 zc2 zb zv hK
        refine J.p (PR.loadAll rfl At.z (by simpa [*] using ag49)) rfl ?_
        refine J.nilK ?_
        exact hK zq zc zq2 zc2 zb zv
      ·
        intro gh gh' h
        rfl
      apply GJ.st2 2 rfl
      · intro gh; conv => lhs; simp only [slotsZ, zlAt, vs0, resL, at2, eq_self, Nat.reduceEqDiff, reduceIte, Nat.reduceSub, Nat.reduceAdd, List.cons_append, List.nil_append]
        all_goals rfl
      · intro gh X; conv => lhs; simp only [slotsZ, zlAt, vs0, resL, at2, eq_self, Nat.reduceEqDiff, reduceIte, Nat.reduceSub, Nat.reduceAdd, List.cons_append, List.nil_append]
        all_goals rfl
      · intro gh X; conv => lhs; simp only [slotsZ, zlAt, vs0, resL, at2, eq_self, Nat.reduceEqDiff, reduceIte, Nat.reduceSub, Nat.reduceAdd, List.cons_append, List.nil_append]
        all_goals rfl
      ·
        intro gh X K zq zc zq2 zc2 zb zv hK
        refine J.call fn35 rfl rfl fun w hH => (toAlgebra_c had haf (by omega) hl6 hH).mono ?_
        rintro _ w ⟨qdo31, cdo31, qfo31, cfo31, vso31, rfl, hH⟩
        refine ⟨_, rfl, fun a hF => J.of hF hH ?_⟩
        refine J.nilK ?_
        exact hK qdo31 cdo31 qfo31 cfo31 zb vso31
      ·
        intro gh gh' h
        refine ⟨?_, ?_, ?_⟩ <;> rfl
      apply GJ.st0 3 rfl
      · intro gh; conv => lhs; simp only [slotsZ, zlAt, vs0, resL, at2, eq_self, Nat.reduceEqDiff, reduceIte, Nat.reduceSub, Nat.reduceAdd, List.cons_append, List.nil_append]
        all_goals rfl
      · intro gh X; conv => lhs; simp only [slotsZ, zlAt, vs0, resL, at2, eq_self, Nat.reduceEqDiff, reduceIte, Nat.reduceSub, Nat.reduceAdd, List.cons_append, List.nil_append]
        all_goals rfl
      · intro gh X; conv => lhs; simp only [slotsZ, zlAt, vs0, resL, at2, eq_self, Nat.reduceEqDiff, reduceIte, Nat.reduceSub, Nat.reduceAdd, List.cons_append, List.nil_append]
        all_goals rfl
      ·
        intro gh X K zq zc zq2 zc2 zb zv hK
        refine J.p (PR.move rfl) rfl ?_
        refine J.nilK ?_
        exact hK zq zc zq2 zc2 zb zv
      ·
        intro gh gh' h
        rfl
      apply GJ.st0 4 rfl
      · intro gh; conv => lhs; simp only [slotsZ, zlAt, vs0, resL, at2, eq_self, Nat.reduceEqDiff, reduceIte, Nat.reduceSub, Nat.reduceAdd, List.cons_append, List.nil_append]
        all_goals rfl
      · intro gh X; conv => lhs; simp only [slotsZ, zlAt, vs0, resL, at2, eq_self, Nat.reduceEqDiff, reduceIte, Nat.reduceSub, Nat.reduceAdd, List.cons_append, List.nil_append]
        all_goals rfl
      · intro gh X; conv => lhs; simp only [slotsZ, zlAt, vs0, resL, at2, eq_self, Nat.reduceEqDiff, reduceIte, Nat.reduceSub, Nat.reduceAdd, List.cons_append, List.nil_append]
        all_goals rfl
      ·
        intro gh X K zq zc zq2 zc2 zb zv hK
        refine J.p (PR.loadAll rfl At.z (by simpa [*] using ag25)) rfl ?_
        refine J.nilK ?_
        exact hK zq zc zq2 zc2 zb zv
      ·
        intro gh gh' h
        rfl
      apply GJ.st1 5 rfl
      · intro gh; conv => lhs; simp only [slotsZ, zlAt, vs0, resL, at2, eq_self, Nat.reduceEqDiff, reduceIte, Nat.reduceSub, Nat.reduceAdd, List.cons_append, List.nil_append]
        all_goals rfl
      · intro gh X; conv => lhs; simp only [slotsZ, zlAt, vs0, resL, at2, eq_self, Nat.reduceEqDiff, reduceIte, Nat.reduceSub, Nat.reduceAdd, List.cons_append, List.nil_append]
        all_goals rfl
      · intro gh X; conv => lhs; simp only [slotsZ, zlAt, vs0, resL, at2, eq_self, Nat.reduceEqDiff, reduceIte, Nat.reduceSub, Nat.reduceAdd, List.cons_append, List.nil_append]
        all_goals rfl
      ·
        intro gh X K zq zc zq2 zc2 zb zv hK
        refine J.call fn21 rfl rfl fun w hH => (toForm_c hts (by omega) hH).mono ?_
        rintro _ w ⟨qo34, co34, rfl, hH⟩
        refine ⟨_, rfl, fun a hF => J.of hF hH ?_⟩
        refine J.nilK ?_
        exact hK qo34 co34 zq2 zc2 zb zv
      ·
        intro gh gh' h
        refine ⟨?_, ?_⟩ <;> (first | simp only [h 1 rfl] | rfl)
      apply GJ.st2 6 rfl
      · intro gh; conv => lhs; simp only [slotsZ, zlAt, vs0, resL, at2, eq_self, Nat.reduceEqDiff, reduceIte, Nat.reduceSub, Nat.reduceAdd, List.cons_append, List.nil_append]
        all_goals rfl
      · intro gh X; conv => lhs; simp only [slotsZ, zlAt, vs0, resL, at2, eq_self, Nat.reduceEqDiff, reduceIte, Nat.reduceSub, Nat.reduceAdd, List.cons_append, List.nil_append]
        all_goals rfl
      · intro gh X; conv => lhs; simp only [slotsZ, zlAt, vs0, resL, at2, eq_self, Nat.reduceEqDiff, reduceIte, Nat.reduceSub, Nat.reduceAdd, List.cons_append, List.nil_append]
        all_goals rfl
      ·
        intro gh X K zq zc zq2 zc2 zb zv hK
        refine J.call fn60 rfl rfl fun w hH => hH.lend .z fun Hl1 hle1 hA1 hB1 hH => hH.lend .z fun Hl2 hle2 hA2 hB2 hH => hH.lend .z fun Hl3 hle3 hA3 hB3 hH => (sWith_c (((own_ints hA1).le hle2).le hle3) ((own_forms haf.wfss hA2).le hle3) (own_terms hts.wfs hA3) (by omega) (by omega) hl6 (by omega) (own_le hA3) hH).mono ?_
        rintro _ w ⟨qdo35, cdo35, qfo35, cfo35, vso35, rfl, hH⟩
        replace hH := hB3 _ _ hH
        replace hH := hB2 _ _ hH
        replace hH := hB1 _ _ hH
        refine ⟨_, rfl, fun a hF => J.of hF hH ?_⟩
        refine EJ.front (.s (.s .z)) ?_
        refine EJ.front (.s (.s .z)) ?_
        refine EJ.front (.s (.s .z)) ?_
        refine EJ.front (.s (.s (.s (.s .z)))) ?_
        refine EJ.front (.s (.s (.s (.s .z)))) ?_
        refine J.nilK ?_
        exact hK qdo35 cdo35 qfo35 cfo35 zb vso35
      ·
        intro gh gh' h
        refine ⟨?_, ?_, ?_⟩ <;> (first | simp only [h 1 rfl, h 4 rfl] | rfl)
      apply GJ.st0 7 rfl
      · intro gh; conv => lhs; simp only [slotsZ, zlAt, vs0, resL, at2, eq_self, Nat.reduceEqDiff, reduceIte, Nat.reduceSub, Nat.reduceAdd, List.cons_append, List.nil_append]
        all_goals rfl
      · intro gh X; conv => lhs; simp only [slotsZ, zlAt, vs0, resL, at2, eq_self, Nat.reduceEqDiff, reduceIte, Nat.reduceSub, Nat.reduceAdd, List.cons_append, List.nil_append]
        all_goals rfl
      · intro gh X; conv => lhs; simp only [slotsZ, zlAt, vs0, resL, at2, eq_self, Nat.reduceEqDiff, reduceIte, Nat.reduceSub, Nat.reduceAdd, List.cons_append, List.nil_append]
        all_goals rfl
      ·
        intro gh X K zq zc zq2 zc2 zb zv hK
        refine J.p (PR.move rfl) rfl ?_
        refine J.nilK ?_
        exact hK zq zc zq2 zc2 zb zv
      ·
        intro gh gh' h
        first | simp only [h 1 rfl, h 4 rfl, h 5 rfl] | rfl
      apply GJ.st0 8 rfl
      · intro gh; conv => lhs; simp only [slotsZ, zlAt, vs0, resL, at2, eq_self, Nat.reduceEqDiff, reduceIte, Nat.reduceSub, Nat.reduceAdd, List.cons_append, List.nil_append]
        all_goals rfl
      · intro gh X; conv => lhs; simp only [slotsZ, zlAt, vs0, resL, at2, eq_self, Nat.reduceEqDiff, reduceIte, Nat.reduceSub, Nat.reduceAdd, List.cons_append, List.nil_append]
        all_goals rfl
      · intro gh X; conv => lhs; simp only [slotsZ, zlAt, vs0, resL, at2, eq_self, Nat.reduceEqDiff, reduceIte, Nat.reduceSub, Nat.reduceAdd, List.cons_append, List.nil_append]
        all_goals rfl
      ·
        intro gh X K zq zc zq2 zc2 zb zv hK
        refine J.p (PR.extract rfl rfl) rfl ?_
        refine J.nilK ?_
        exact hK zq zc zq2 zc2 zb zv
      ·
        intro gh gh' h
        first | simp only [h 1 rfl, h 4 rfl, h 5 rfl] | rfl
      apply GJ.st0 9 rfl
      · intro gh; conv => lhs; simp only [slotsZ, zlAt, vs0, resL, at2, eq_self, Nat.reduceEqDiff, reduceIte, Nat.reduceSub, Nat.reduceAdd, List.cons_append, List.nil_append]
        all_goals rfl
      · intro gh X; conv => lhs; simp only [slotsZ, zlAt, vs0, resL, at2, eq_self, Nat.reduceEqDiff, reduceIte, Nat.reduceSub, Nat.reduceAdd, List.cons_append, List.nil_append]
        all_goals rfl
      · intro gh X; conv => lhs; simp only [slotsZ, zlAt, vs0, resL, at2, eq_self, Nat.reduceEqDiff, reduceIte, Nat.reduceSub, Nat.reduceAdd, List.cons_append, List.nil_append]
        all_goals rfl
      ·
        intro gh X K zq zc zq2 zc2 zb zv hK
        refine J.p (PR.extract rfl rfl) rfl ?_
        refine J.nilK ?_
        exact hK zq zc zq2 zc2 zb zv
      ·
        intro gh gh' h
        first | simp only [h 1 rfl, h 4 rfl, h 5 rfl] | rfl
      apply GJ.st1 10 rfl
      · intro gh; conv => lhs; simp only [slotsZ, zlAt, vs0, resL, at2, eq_self, Nat.reduceEqDiff, reduceIte, Nat.reduceSub, Nat.reduceAdd, List.cons_append, List.nil_append]
        all_goals rfl
      · intro gh X; conv => lhs; simp only [slotsZ, zlAt, vs0, resL, at2, eq_self, Nat.reduceEqDiff, reduceIte, Nat.reduceSub, Nat.reduceAdd, List.cons_append, List.nil_append]
        all_goals rfl
      · intro gh X; conv => lhs; simp only [slotsZ, zlAt, vs0, resL, at2, eq_self, Nat.reduceEqDiff, reduceIte, Nat.reduceSub, Nat.reduceAdd, List.cons_append, List.nil_append]
        all_goals rfl
      ·
        intro gh X K zq zc zq2 zc2 zb zv hK
        refine J.alloc ze41 rfl fun g8 => ?_
        refine J.nilK ?_
        exact hK zq zc zq2 zc2 g8 zv
      ·
        intro gh gh' h
        refine ⟨?_, ?_⟩ <;> rfl
      apply GJ.sn1 11 rfl
      · intro gh; conv => lhs; simp only [slotsZ, zlAt, vs0, resL, at2, eq_self, Nat.reduceEqDiff, reduceIte, Nat.reduceSub, Nat.reduceAdd, List.cons_append, List.nil_append]
        all_goals rfl
      · intro gh X; conv => lhs; simp only [slotsZ, zlAt, vs0, resL, at2, eq_self, Nat.reduceEqDiff, reduceIte, Nat.reduceSub, Nat.reduceAdd, List.cons_append, List.nil_append]
        all_goals rfl
      · intro gh X; conv => lhs; simp only [slotsZ, zlAt, vs0, resL, at2, eq_self, Nat.reduceEqDiff, reduceIte, Nat.reduceSub, Nat.reduceAdd, List.cons_append, List.nil_append]
        all_goals rfl
      ·
        intro gh X K hK
        refine J.storeAll rfl rfl (by first | exact bytesC_one _ | exact intsC_one _ | exact Term.c_one _ | simp [Value.oneCell']) (by simpa [*] using sz41) (by simp [*]) At.z ?_
        refine J.nilK ?_
        exact hK
      ·
        intro gh gh' h
        first | simp only [h 1 rfl, h 4 rfl, h 5 rfl, h 9 rfl] | rfl
      apply GJ.st0 12 rfl
      · intro gh; conv => lhs; simp only [slotsZ, zlAt, vs0, resL, at2, eq_self, Nat.reduceEqDiff, reduceIte, Nat.reduceSub, Nat.reduceAdd, List.cons_append, List.nil_append]
        all_goals rfl
      · intro gh X; conv => lhs; simp only [slotsZ, zlAt, vs0, resL, at2, eq_self, Nat.reduceEqDiff, reduceIte, Nat.reduceSub, Nat.reduceAdd, List.cons_append, List.nil_append]
        all_goals rfl
      · intro gh X; conv => lhs; simp only [slotsZ, zlAt, vs0, resL, at2, eq_self, Nat.reduceEqDiff, reduceIte, Nat.reduceSub, Nat.reduceAdd, List.cons_append, List.nil_append]
        all_goals rfl
      ·
        intro gh X K zq zc zq2 zc2 zb zv hK
        refine J.p (PR.assign rfl) rfl ?_
        refine J.nilK ?_
        exact hK zq zc zq2 zc2 zb zv
      ·
        intro gh gh' h
        first | simp only [h 1 rfl, h 4 rfl, h 5 rfl, h 9 rfl] | rfl
      apply GJ.close [0, 1, 2, 3, 4, 5, 6, 7, 8, 9, 10, 11] [0, 1, 2, 3, 4, 5, 6, 7, 8, 10, 11, 12, 13] foll0 rfl rfl rfl (by rfl)
      · intro gh; conv => lhs; simp only [slotsZ, zlAt, vs0, resL, at2, eq_self, Nat.reduceEqDiff, reduceIte, Nat.reduceSub, Nat.reduceAdd, List.cons_append, List.nil_append]
        all_goals rfl
      · intro gh; conv => lhs; simp only [slotsZ, zlAt, vs0, resL, at2, eq_self, Nat.reduceEqDiff, reduceIte, Nat.reduceSub, Nat.reduceAdd, List.cons_append, List.nil_append]
        all_goals rfl
      intro gh
      generalize (gh 1).c = cdo31
      generalize (gh 1).c2 = cfo31
      generalize (gh 1).q = qdo31
      generalize (gh 1).q2 = qfo31
      generalize (gh 1).vs = vso31
      generalize (gh 4).c = co34
      generalize (gh 4).q = qo34
      generalize (gh 5).c = cdo35
      generalize (gh 5).c2 = cfo35
      generalize (gh 5).q = qdo35
      generalize (gh 5).q2 = qfo35
      generalize (gh 5).vs = vso35
      generalize (gh 9).b = g8
      clear gh
      refine EJ.thenN (hK11 ?_)
      refine CJ.seq fun _ hK12 _ => ?_
      refine CJ.region ?_
      refine J.p (PR.loadAll rfl (.s (.s (.s (.s (.s (.s (.s .z))))))) (by simpa [*] using ag49)) rfl ?_
      refine J.call fn35 rfl rfl fun w hH => (toAlgebra_c had haf (by omega) hl6 hH).mono ?_
      rintro _ w ⟨qdo39, cdo39, qfo39, cfo39, vso39, rfl, hH⟩
      refine ⟨_, rfl, fun a hF => J.of hF hH ?_⟩
      refine J.alloc ze41 rfl fun g10 => ?_
      refine J.storeAll rfl rfl (by first | exact bytesC_one _ | exact intsC_one _ | exact Term.c_one _ | simp [Value.oneCell']) (by simpa [*] using sz41) (by simp [*]) At.z ?_
      refine J.nil ?_
      refine EJ.thenN (hK12 ?_)
      refine CJ.seq fun _ hK13 _ => ?_
      refine CJ.region ?_
      refine J.p (PR.loadAll rfl (.s (.s (.s (.s (.s (.s (.s (.s (.s .z))))))))) (by simpa [*] using ag25)) rfl ?_
      refine J.call fn21 rfl rfl fun w hH => (toForm_c hts (by omega) hH).mono ?_
      rintro _ w ⟨qo41, co41, rfl, hH⟩
      refine ⟨_, rfl, fun a hF => J.of hF hH ?_⟩
      refine J.alloc ze29 rfl fun g11 => ?_
      refine J.storeAll rfl rfl (by first | exact bytesC_one _ | exact intsC_one _ | exact Term.c_one _ | simp [Value.oneCell']) (by simpa [*] using sz29) (by simp [*]) At.z ?_
      refine J.nil ?_
      refine EJ.thenN (hK13 ?_)
      refine CJ.seq fun _ hK14 _ => ?_
      refine CJ.region ?_
      refine J.p (PR.loadAll rfl (.s (.s .z)) (by simpa [*] using ag41)) rfl ?_
      refine J.p (PR.move rfl) rfl ?_
      refine J.p (PR.loadAll rfl At.z (by simpa [*] using ag29)) rfl ?_
      refine J.call fn61 rfl rfl fun w hH => hH.lend (.s (.s (.s .z))) fun Hl1 hle1 hA1 hB1 hH => hH.lend (.s (.s (.s .z))) fun Hl2 hle2 hA2 hB2 hH => hH.lend (.s .z) fun Hl3 hle3 hA3 hB3 hH => (With_c (((own_ints hA1).le hle2).le hle3) ((own_forms haf.wfss hA2).le hle3) (own_terms hts.wfs hA3) (by omega) (by omega) hl6 (by omega) (own_le hA3) hH).mono ?_
      rintro _ w ⟨qdo46, cdo46, qfo46, cfo46, vso46, rfl, hH⟩
      replace hH := hB3 _ _ hH
      replace hH := hB2 _ _ hH
      replace hH := hB1 _ _ hH
      refine ⟨_, rfl, fun a hF => J.of hF hH ?_⟩
      refine J.p (PR.move rfl) rfl ?_
      refine J.p (PR.extract rfl rfl) rfl ?_
      refine J.p (PR.extract rfl rfl) rfl ?_
      refine J.alloc ze41 rfl fun g12 => ?_
      refine J.storeAll rfl rfl (by first | exact bytesC_one _ | exact intsC_one _ | exact Term.c_one _ | simp [Value.oneCell']) (by simpa [*] using sz41) (by simp [*]) At.z ?_
      refine J.p (PR.assign rfl) rfl ?_
      refine J.nil ?_
      refine EJ.thenN (hK14 ?_)
      refine CJ.seq fun _ hK15 _ => ?_
      refine CJ.seq fun _ hK16 _ => ?_
      refine CJ.region ?_
      refine J.p (PR.loadAll rfl At.z (by simpa [*] using ag41)) rfl ?_
      refine J.p (PR.loadAll rfl (.s (.s (.s (.s (.s (.s (.s (.s (.s (.s (.s (.s (.s .z))))))))))))) (by simpa [*] using ag41)) rfl ?_
      refine J.call fn30 rfl rfl fun w hH => hH.lend (.s (.s (.s (.s .z)))) fun Hl1 hle1 hA1 hB1 hH => hH.lend (.s (.s (.s (.s .z)))) fun Hl2 hle2 hA2 hB2 hH => hH.lend (.s (.s (.s (.s (.s (.s (.s (.s (.s .z))))))))) fun Hl3 hle3 hA3 hB3 hH => hH.lend (.s (.s (.s (.s (.s (.s (.s (.s (.s .z))))))))) fun Hl4 hle4 hA4 hB4 hH => (eqAlgebra_c ((((own_ints hA1).le hle2).le hle3).le hle4) (((own_forms (wgF_wf haf.wfss hts.wfs.wfs) hA2).le hle3).le hle4) ((own_ints hA3).le hle4) (own_forms (wgF_wf haf.wfss hts.wfs.wfs) hA4) (by omega) (by omega) f4 hH).mono ?_
      rintro _ w ⟨rfl, hH⟩
      replace hH := hB4 _ _ hH
      replace hH := hB3 _ _ hH
      replace hH := hB2 _ _ hH
      replace hH := hB1 _ _ hH
      refine ⟨_, rfl, fun a hF => J.of hF hH ?_⟩
      refine J.p (PR.not rfl) rfl ?_
      refine J.p (PR.move rfl) rfl ?_
      refine J.splitB (jd := 53) rfl (fun hg53 => ?_) (fun hg53 => ?_)
      ·
        try have hg53p := of_decide_eq_true hg53
        refine J.gn rfl rfl rfl hg53 ?_
        refine J.gn rfl rfl rfl hg53 ?_
        refine J.gn rfl rfl rfl hg53 ?_
        refine J.p (PR.pickT rfl hg53 rfl) rfl ?_
        refine J.nil ?_
        refine EJ.thenN (hK16 ?_)
        refine CJ.condT rfl ?_
        refine CJ.seq fun _ hK17 _ => ?_
        refine CJ.region ?_
        refine J.p (PR.assign rfl) rfl ?_
        refine J.nil ?_
        refine EJ.thenN (hK17 ?_)
        refine CJ.ret ?_
        refine EJ.thenR ?_
        refine EJ.ret1 rfl (Res.tmp rfl) fun w hH => ?_
        replace hH := hH.tail
        replace hH := hH.tail
        replace hH := hH.tail
        replace hH := hH.tail
        replace hH := hH.tail
        replace hH := hH.tail
        replace hH := hH.tail
        replace hH := hH.tail
        replace hH := hH.tail
        replace hH := hH.tail
        replace hH := hH.tail
        replace hH := hH.tail
        replace hH := hH.tail
        replace hH := hH.tail
        replace hH := hH.tail
        replace hH := hH.tail
        first | exact ⟨rfl, hH.below⟩ | exact absurd rfl hg53p | exact absurd rfl hg53 | (exfalso; omega) | (simp at hg53; done)
      ·
        try have hg53p := of_decide_eq_false hg53
        refine J.gy (PR.move rfl) rfl rfl rfl hg53 ?_
        refine J.gy (PR.move rfl) rfl rfl rfl hg53 ?_
        refine J.gy (PR.neq rfl rfl) rfl rfl rfl hg53 ?_
        refine J.p (PR.pickF rfl hg53 rfl) rfl ?_
        refine J.nil ?_
        refine EJ.thenN (hK16 ?_)
        refine CJ.condD rfl (fun hc57 => ?_) (fun hc57 => ?_)
        ·
          refine CJ.seq fun _ hK18 _ => ?_
          refine CJ.region ?_
          refine J.p (PR.assign rfl) rfl ?_
          refine J.nil ?_
          refine EJ.thenN (hK18 ?_)
          refine CJ.ret ?_
          refine EJ.thenR ?_
          refine EJ.ret1 rfl (Res.tmp rfl) fun w hH => ?_
          replace hH := hH.tail
          replace hH := hH.tail
          replace hH := hH.tail
          replace hH := hH.tail
          replace hH := hH.tail
          replace hH := hH.tail
          replace hH := hH.tail
          replace hH := hH.tail
          replace hH := hH.tail
          replace hH := hH.tail
          replace hH := hH.tail
          replace hH := hH.tail
          replace hH := hH.tail
          replace hH := hH.tail
          replace hH := hH.tail
          replace hH := hH.tail
          first | exact ⟨rfl, hH.below⟩ | exact absurd rfl hc57p | exact absurd rfl hc57 | (exfalso; omega) | (simp at hc57; done)
        ·
          refine CJ.skip ?_
          refine EJ.thenN (hK15 ?_)
          refine CJ.seq fun _ hK19 _ => ?_
          refine CJ.seq fun _ hK20 _ => ?_
          refine CJ.openR (Rs := [_, _, _, _, _, _, _, _, _, _, _, _, _, _, _, _]) 5 [[], [], [1], [0, 1, 2], [0, 1, 2, 3]] [[14], [20], [], [2, 10, 11], []] [[], [], [], [], []] rfl rfl (by kernel_rfl) ?_
          apply GJ.st0 1 rfl
          · intro gh; conv => lhs; simp only [slotsZ, zlAt, vs0, resL, at2, eq_self, Nat.reduceEqDiff, reduceIte, Nat.reduceSub, Nat.reduceAdd, List.cons_append, List.nil_append]
            all_goals rfl
          · intro gh X; conv => lhs; simp only [slotsZ, zlAt, vs0, resL, at2, eq_self, Nat.reduceEqDiff, reduceIte, Nat.reduceSub, Nat.reduceAdd, List.cons_append, List.nil_append]
            all_goals rfl
          · intro gh X; conv => lhs; simp only [slotsZ, zlAt, vs0, resL, at2, eq_self, Nat.reduceEqDiff, reduceIte, Nat.reduceSub, Nat.reduceAdd, List.cons_append, List.nil_append]
            all_goals rfl
          ·
            intro gh X K zq zc zq2 zc2 zb zv hK
            refine J.p (PR.loadAll rfl At.z (by simpa [*] using ag41)) rfl ?_
            refine J.nilK ?_
            exact hK zq zc zq2 zc2 zb zv
          ·
            intro gh gh' h
            rfl
          apply GJ.st0 2 rfl
          · intro gh; conv => lhs; simp only [slotsZ, zlAt, vs0, resL, at2, eq_self, Nat.reduceEqDiff, reduceIte, Nat.reduceSub, Nat.reduceAdd, List.cons_append, List.nil_append]
            all_goals rfl
          · intro gh X; conv => lhs; simp only [slotsZ, zlAt, vs0, resL, at2, eq_self, Nat.reduceEqDiff, reduceIte, Nat.reduceSub, Nat.reduceAdd, List.cons_append, List.nil_append]
            all_goals rfl
          · intro gh X; conv => lhs; simp only [slotsZ, zlAt, vs0, resL, at2, eq_self, Nat.reduceEqDiff, reduceIte, Nat.reduceSub, Nat.reduceAdd, List.cons_append, List.nil_append]
            all_goals rfl
          ·
            intro gh X K zq zc zq2 zc2 zb zv hK
            refine J.p (PR.loadAll rfl At.z (by simpa [*] using ag49)) rfl ?_
            refine J.nilK ?_
            exact hK zq zc zq2 zc2 zb zv
          ·
            intro gh gh' h
            rfl
          apply GJ.st2 3 rfl
          · intro gh; conv => lhs; simp only [slotsZ, zlAt, vs0, resL, at2, eq_self, Nat.reduceEqDiff, reduceIte, Nat.reduceSub, Nat.reduceAdd, List.cons_append, List.nil_append]
            all_goals rfl
          · intro gh X; conv => lhs; simp only [slotsZ, zlAt, vs0, resL, at2, eq_self, Nat.reduceEqDiff, reduceIte, Nat.reduceSub, Nat.reduceAdd, List.cons_append, List.nil_append]
            all_goals rfl
          · intro gh X; conv => lhs; simp only [slotsZ, zlAt, vs0, resL, at2, eq_self, Nat.reduceEqDiff, reduceIte, Nat.reduceSub, Nat.reduceAdd, List.cons_append, List.nil_append]
            all_goals rfl
          ·
            intro gh X K zq zc zq2 zc2 zb zv hK
            refine J.call fn35 rfl rfl fun w hH => (toAlgebra_c had haf (by omega) hl6 hH).mono ?_
            rintro _ w ⟨qdo60, cdo60, qfo60, cfo60, vso60, rfl, hH⟩
            refine ⟨_, rfl, fun a hF => J.of hF hH ?_⟩
            refine J.nilK ?_
            exact hK qdo60 cdo60 qfo60 cfo60 zb vso60
          ·
            intro gh gh' h
            refine ⟨?_, ?_, ?_⟩ <;> rfl
          apply GJ.st0 4 rfl
          · intro gh; conv => lhs; simp only [slotsZ, zlAt, vs0, resL, at2, eq_self, Nat.reduceEqDiff, reduceIte, Nat.reduceSub, Nat.reduceAdd, List.cons_append, List.nil_append]
            all_goals rfl
          · intro gh X; conv => lhs; simp only [slotsZ, zlAt, vs0, resL, at2, eq_self, Nat.reduceEqDiff, reduceIte, Nat.reduceSub, Nat.reduceAdd, List.cons_append, List.nil_append]
            all_goals rfl
          · intro gh X; conv => lhs; simp only [slotsZ, zlAt, vs0, resL, at2, eq_self, Nat.reduceEqDiff, reduceIte, Nat.reduceSub, Nat.reduceAdd, List.cons_append, List.nil_append]
            all_goals rfl
          ·
            intro gh X K zq zc zq2 zc2 zb zv hK
            refine J.call fn30 rfl rfl fun w hH => hH.lend (.s (.s .z)) fun Hl1 hle1 hA1 hB1 hH => hH.lend (.s (.s .z)) fun Hl2 hle2 hA2 hB2 hH => hH.lend .z fun Hl3 hle3 hA3 hB3 hH => hH.lend .z fun Hl4 hle4 hA4 hB4 hH => (eqAlgebra_c ((((own_ints hA1).le hle2).le hle3).le hle4) (((own_forms haf.wfss hA2).le hle3).le hle4) ((own_ints hA3).le hle4) (own_forms haf.wfss hA4) (by omega) (by omega) hl hH).mono ?_
            rintro _ w ⟨rfl, hH⟩
            replace hH := hB4 _ _ hH
            replace hH := hB3 _ _ hH
            replace hH := hB2 _ _ hH
            replace hH := hB1 _ _ hH
            refine ⟨_, rfl, fun a hF => J.of hF hH ?_⟩
            refine EJ.front (.s .z) ?_
            refine EJ.front (.s .z) ?_
            refine EJ.front (.s (.s (.s .z))) ?_
            refine EJ.front (.s (.s (.s .z))) ?_
            refine J.nilK ?_
            exact hK zq zc zq2 zc2 zb zv
          ·
            intro gh gh' h
            first | simp only [h 2 rfl] | rfl
          apply GJ.st0 5 rfl
          · intro gh; conv => lhs; simp only [slotsZ, zlAt, vs0, resL, at2, eq_self, Nat.reduceEqDiff, reduceIte, Nat.reduceSub, Nat.reduceAdd, List.cons_append, List.nil_append]
            all_goals rfl
          · intro gh X; conv => lhs; simp only [slotsZ, zlAt, vs0, resL, at2, eq_self, Nat.reduceEqDiff, reduceIte, Nat.reduceSub, Nat.reduceAdd, List.cons_append, List.nil_append]
            all_goals rfl
          · intro gh X; conv => lhs; simp only [slotsZ, zlAt, vs0, resL, at2, eq_self, Nat.reduceEqDiff, reduceIte, Nat.reduceSub, Nat.reduceAdd, List.cons_append, List.nil_append]
            all_goals rfl
          ·
            intro gh X K zq zc zq2 zc2 zb zv hK
            refine J.p (PR.not rfl) rfl ?_
            refine J.nilK ?_
            exact hK zq zc zq2 zc2 zb zv
          ·
            intro gh gh' h
            first | simp only [h 2 rfl] | rfl
          apply GJ.close [0, 1, 2, 3, 4] [0, 1, 2, 3, 4, 5, 6, 7, 8, 9, 10, 11, 12, 13, 14, 15, 16, 17, 18, 19, 20] foll0 rfl rfl rfl (by rfl)
          · intro gh; conv => lhs; simp only [slotsZ, zlAt, vs0, resL, at2, eq_self, Nat.reduceEqDiff, reduceIte, Nat.reduceSub, Nat.reduceAdd, List.cons_append, List.nil_append]
            all_goals rfl
          · intro gh; conv => lhs; simp only [slotsZ, zlAt, vs0, resL, at2, eq_self, Nat.reduceEqDiff, reduceIte, Nat.reduceSub, Nat.reduceAdd, List.cons_append, List.nil_append]
            all_goals rfl
          intro gh
          generalize (gh 2).c = cdo60
          generalize (gh 2).c2 = cfo60
          generalize (gh 2).q = qdo60
          generalize (gh 2).q2 = qfo60
          generalize (gh 2).vs = vso60
          clear gh
          refine EJ.thenN (hK20 ?_)
          refine CJ.cond rfl (fun hc62 => ?_) (fun hc62 => ?_)
          ·
            refine CJ.seq fun _ hK21 _ => ?_
            refine CJ.region ?_
            refine J.p (PR.assign rfl) rfl ?_
            refine J.nil ?_
            refine EJ.thenN (hK21 ?_)
            refine CJ.ret ?_
            refine EJ.thenR ?_
            refine EJ.ret1 rfl (Res.tmp rfl) fun w hH => ?_
            replace hH := hH.tail
            replace hH := hH.tail
            replace hH := hH.tail
            replace hH := hH.tail
            replace hH := hH.tail
            replace hH := hH.tail
            replace hH := hH.tail
            replace hH := hH.tail
            replace hH := hH.tail
            replace hH := hH.tail
            replace hH := hH.tail
            replace hH := hH.tail
            replace hH := hH.tail
            replace hH := hH.tail
            replace hH := hH.tail
            replace hH := hH.tail
            replace hH := hH.tail
            replace hH := hH.tail
            first | exact ⟨rfl, hH.below⟩ | exact absurd rfl hc62p | exact absurd rfl hc62 | (exfalso; omega) | (simp at hc62; done)
          ·
            refine CJ.skip ?_
            refine EJ.thenN (hK19 ?_)
            refine CJ.seq fun _ hK22 _ => ?_
            refine CJ.seq fun _ hK23 _ => ?_
            refine CJ.head [[], [], [1]] (by kernel_rfl) ?_
            refine HJ.op (fun gh => PR.loadAll rfl (.s (.s (.s (.s (.s (.s (.s (.s (.s (.s .z)))))))))) (by simpa [*] using ag29)) ?_
            refine HJ.op (fun gh => PR.loadAll rfl (.s (.s (.s (.s (.s (.s (.s (.s (.s (.s (.s (.s (.s (.s (.s (.s .z)))))))))))))))) (by simpa [*] using ag25)) ?_
            refine HJ.callN fn21 (fun gh => rfl) (fun w X hH => toForm_c hts (by omega) hH) ?_
            refine HJ.close 3 1 foll0 (by kernel_rfl) rfl rfl fun gh => ?_
            refine J.conv (us' := (63, _) :: (64, _) :: (65, _) :: _) (L' := _ :: _) rfl rfl ?_
            refine J.call fn23 rfl rfl fun w hH => hH.lend (.s (.s (.s (.s (.s (.s (.s (.s (.s (.s .z)))))))))) fun Hl1 hle1 hA1 hB1 hH => hH.lend .z fun Hl2 hle2 hA2 hB2 hH => (eqForm_c ((own_terms hts.wfs hA1).le hle2) (own_terms hts.wfs hA2) (by omega) hH).mono ?_
            rintro _ w ⟨rfl, hH⟩
            replace hH := hB2 _ _ hH
            replace hH := hB1 _ _ hH
            refine ⟨_, rfl, fun a hF => J.of hF hH ?_⟩
            refine J.nil ?_
            refine EJ.still ?_
            refine JS.op (PR.not rfl) rfl ?_
            refine JS.nil ?_
            refine EJ.thenN (hK23 ?_)
            refine CJ.cond rfl (fun hc67 => ?_) (fun hc67 => ?_)
            ·
              refine CJ.seq fun _ hK24 _ => ?_
              refine CJ.region ?_
              refine J.p (PR.assign rfl) rfl ?_
              refine J.nil ?_
              refine EJ.thenN (hK24 ?_)
              refine CJ.ret ?_
              refine EJ.thenR ?_
              refine EJ.ret1 rfl (Res.tmp rfl) fun w hH => ?_
              replace hH := hH.tail
              replace hH := hH.tail
              replace hH := hH.tail
              replace hH := hH.tail
              replace hH := hH.tail
              replace hH := hH.tail
              replace hH := hH.tail
              replace hH := hH.tail
              replace hH := hH.tail
              replace hH := hH.tail
              replace hH := hH.tail
              replace hH := hH.tail
              replace hH := hH.tail
              replace hH := hH.tail
              replace hH := hH.tail
              replace hH := hH.tail
              replace hH := hH.tail
              replace hH := hH.tail
              replace hH := hH.tail
              first | exact ⟨rfl, hH.below⟩ | exact absurd rfl hc67p | exact absurd rfl hc67 | (exfalso; omega) | (simp at hc67; done)
            ·
              refine CJ.skip ?_
              refine EJ.thenN (hK22 ?_)
              refine CJ.seq fun _ hK25 _ => ?_
              refine CJ.region ?_
              refine J.p (PR.assign rfl) rfl ?_
              refine J.nil ?_
              refine EJ.thenN (hK25 ?_)
              refine CJ.seq fun _ hK26 _ => ?_
              refine CJ.region ?_
              refine J.p (PR.loadAll rfl (.s (.s (.s (.s (.s (.s (.s (.s (.s (.s (.s (.s .z)))))))))))) (by simpa [*] using ag41)) rfl ?_
              refine J.p (PR.move rfl) rfl ?_
              refine J.call fn31 rfl rfl fun w hH => (markAlgebra_c (by omega) (by omega) ((hH.front (.s (.s (.s (.s (.s (.s (.s (.s (.s (.s .z))))))))))).front (.s (.s (.s (.s (.s (.s (.s (.s (.s (.s .z)))))))))))).mono ?_
              rintro _ w ⟨rfl, hH⟩
              refine ⟨_, rfl, fun a hF => J.of hF hH ?_⟩
              refine J.p (PR.assign rfl) rfl ?_
              refine J.nil ?_
              refine EJ.thenN (hK26 ?_)
              refine CJ.seq fun _ hK27 _ => ?_
              refine CJ.region ?_
              refine J.p (PR.loadAll rfl (.s (.s (.s (.s (.s (.s (.s (.s (.s (.s (.s .z))))))))))) (by simpa [*] using ag29)) rfl ?_
              refine J.p (PR.move rfl) rfl ?_
              refine J.call fn26 rfl rfl fun w hH => (markForm_c (by omega) (hH.front (.s (.s .z)))).mono ?_
              rintro _ w ⟨rfl, hH⟩
              refine ⟨_, rfl, fun a hF => J.of hF hH ?_⟩
              refine J.p (PR.assign rfl) rfl ?_
              refine J.nil ?_
              refine EJ.thenN (hK27 ?_)
              refine CJ.seq fun _ hK28 _ => ?_
              refine CJ.seq fun _ hK29 _ => ?_
              refine CJ.region ?_
              refine J.p (PR.move rfl) rfl ?_
              refine J.p (PR.lss rfl rfl) rfl ?_
              refine J.p (PR.move rfl) rfl ?_
              refine J.splitB (jd := 76) rfl (fun hg76 => ?_) (fun hg76 => ?_)
              ·
                try have hg76p := of_decide_eq_true hg76
                refine J.gn rfl rfl rfl hg76 ?_
                refine J.gn rfl rfl rfl hg76 ?_
                refine J.gn rfl rfl rfl hg76 ?_
                refine J.gn rfl rfl rfl hg76 ?_
                refine J.p (PR.pickT rfl hg76 rfl) rfl ?_
                refine J.p (PR.move rfl) rfl ?_
                refine J.gn rfl rfl rfl rfl ?_
                refine J.gn rfl rfl rfl rfl ?_
                refine J.gn rfl rfl rfl rfl ?_
                refine J.p (PR.pickT rfl rfl rfl) rfl ?_
                refine J.nil ?_
                refine EJ.thenN (hK29 ?_)
                refine CJ.condT rfl ?_
                refine CJ.seq fun _ hK30 _ => ?_
                refine CJ.region ?_
                refine J.p (PR.assign rfl) rfl ?_
                refine J.nil ?_
                refine EJ.thenN (hK30 ?_)
                refine CJ.ret ?_
                refine EJ.thenR ?_
                refine EJ.ret1 rfl (Res.tmp rfl) fun w hH => ?_
                replace hH := hH.tail
                replace hH := hH.tail
                replace hH := hH.tail
                replace hH := hH.tail
                replace hH := hH.tail
                replace hH := hH.tail
                replace hH := hH.tail
                replace hH := hH.tail
                replace hH := hH.tail
                replace hH := hH.tail
                replace hH := hH.tail
                replace hH := hH.tail
                replace hH := hH.tail
                replace hH := hH.tail
                replace hH := hH.tail
                replace hH := hH.tail
                replace hH := hH.tail
                replace hH := hH.tail
                replace hH := hH.tail
                first | exact ⟨rfl, hH.below⟩ | exact absurd rfl hg76p | exact absurd rfl hg76 | (exfalso; omega) | (simp at hg76; done)
              ·
                try have hg76p := of_decide_eq_false hg76
                refine J.gy (PR.loadAll rfl (.s (.s (.s (.s (.s (.s (.s (.s (.s (.s .z)))))))))) (by simpa [*] using ag41)) rfl rfl rfl hg76 ?_
                refine J.gy (PR.loadAll rfl (.s (.s (.s (.s (.s (.s (.s (.s (.s (.s (.s (.s (.s (.s (.s (.s .z)))))))))))))))) (by simpa [*] using ag41)) rfl rfl rfl hg76 ?_
                refine J.gcall fn30 rfl rfl hg76 rfl rfl fun w hH => hH.lend (.s (.s (.s (.s (.s (.s .z)))))) fun Hl1 hle1 hA1 hB1 hH => hH.lend (.s (.s (.s (.s (.s (.s .z)))))) fun Hl2 hle2 hA2 hB2 hH => hH.lend (.s (.s (.s (.s (.s (.s .z)))))) fun Hl3 hle3 hA3 hB3 hH => hH.lend (.s (.s (.s (.s (.s (.s .z)))))) fun Hl4 hle4 hA4 hB4 hH => (eqAlgebra_c ((((own_ints hA1).le hle2).le hle3).le hle4) (((own_forms (wgF_wf haf.wfss hts.wfs.wfs) hA2).le hle3).le hle4) ((own_ints hA3).le hle4) (own_forms (wgF_wf haf.wfss hts.wfs.wfs) hA4) (by omega) (by omega) f4 hH).mono ?_
                rintro _ w ⟨rfl, hH⟩
                replace hH := hB4 _ _ hH
                replace hH := hB3 _ _ hH
                replace hH := hB2 _ _ hH
                replace hH := hB1 _ _ hH
                refine ⟨_, rfl, fun a hF => J.of hF hH ?_⟩
                refine J.gy (PR.not rfl) rfl rfl rfl hg76 ?_
                refine J.p (PR.pickF rfl hg76 rfl) rfl ?_
                refine J.p (PR.move rfl) rfl ?_
                refine J.splitB (jd := 82) rfl (fun hg82 => ?_) (fun hg82 => ?_)
                ·
                  try have hg82p := of_decide_eq_true hg82
                  refine J.gn rfl rfl rfl hg82 ?_
                  refine J.gn rfl rfl rfl hg82 ?_
                  refine J.gn rfl rfl rfl hg82 ?_
                  refine J.p (PR.pickT rfl hg82 rfl) rfl ?_
                  refine J.nil ?_
                  refine EJ.thenN (hK29 ?_)
                  refine CJ.condT rfl ?_
                  refine CJ.seq fun _ hK31 _ => ?_
                  refine CJ.region ?_
                  refine J.p (PR.assign rfl) rfl ?_
                  refine J.nil ?_
                  refine EJ.thenN (hK31 ?_)
                  refine CJ.ret ?_
                  refine EJ.thenR ?_
                  refine EJ.ret1 rfl (Res.tmp rfl) fun w hH => ?_
                  replace hH := hH.tail
                  replace hH := hH.tail
                  replace hH := hH.tail
                  replace hH := hH.tail
                  replace hH := hH.tail
                  replace hH := hH.tail
                  replace hH := hH.tail
                  replace hH := hH.tail
                  replace hH := hH.tail
                  replace hH := hH.tail
                  replace hH := hH.tail
                  replace hH := hH.tail
                  replace hH := hH.tail
                  replace hH := hH.tail
                  replace hH := hH.tail
                  replace hH := hH.tail
                  replace hH := hH.tail
                  replace hH := hH.tail
                  replace hH := hH.tail
                  first | exact ⟨rfl, hH.below⟩ | exact absurd rfl hg82p | exact absurd rfl hg82 | (exfalso; omega) | (simp at hg82; done)
                ·
                  try have hg82p := of_decide_eq_false hg82
                  refine J.gy (PR.move rfl) rfl rfl rfl hg82 ?_
                  refine J.gy (PR.move rfl) rfl rfl rfl hg82 ?_
                  refine J.gy (PR.neq rfl rfl) rfl rfl rfl hg82 ?_
                  refine J.p (PR.pickF rfl hg82 rfl) rfl ?_
                  refine J.nil ?_
                  refine EJ.thenN (hK29 ?_)
                  refine CJ.condD rfl (fun hc86 => ?_) (fun hc86 => ?_)
                  ·
                    refine CJ.seq fun _ hK32 _ => ?_
                    refine CJ.region ?_
                    refine J.p (PR.assign rfl) rfl ?_
                    refine J.nil ?_
                    refine EJ.thenN (hK32 ?_)
                    refine CJ.ret ?_
                    refine EJ.thenR ?_
                    refine EJ.ret1 rfl (Res.tmp rfl) fun w hH => ?_
                    replace hH := hH.tail
                    replace hH := hH.tail
                    replace hH := hH.tail
                    replace hH := hH.tail
                    replace hH := hH.tail
                    replace hH := hH.tail
                    replace hH := hH.tail
                    replace hH := hH.tail
                    replace hH := hH.tail
                    replace hH := hH.tail
                    replace hH := hH.tail
                    replace hH := hH.tail
                    replace hH := hH.tail
                    replace hH := hH.tail
                    replace hH := hH.tail
                    replace hH := hH.tail
                    replace hH := hH.tail
                    replace hH := hH.tail
                    replace hH := hH.tail
                    first | exact ⟨rfl, hH.below⟩ | exact absurd rfl hc86p | exact absurd rfl hc86 | (exfalso; omega) | (simp at hc86; done)
                  ·
                    refine CJ.skip ?_
                    refine EJ.thenN (hK28 ?_)
                    refine CJ.seq fun _ hK33 _ => ?_
                    refine CJ.region ?_
                    refine J.p (PR.assign rfl) rfl ?_
                    refine J.nil ?_
                    refine EJ.thenN (hK33 ?_)
                    refine CJ.seq fun _ hK34 _ => ?_
                    refine CJ.region ?_
                    refine J.p (PR.loadAll rfl (.s (.s (.s (.s (.s (.s (.s (.s (.s (.s .z)))))))))) (by simpa [*] using ag41)) rfl ?_
                    refine J.p (PR.move rfl) rfl ?_
                    refine J.call fn31 rfl rfl fun w hH => (markAlgebra_c (by omega) (by omega) ((hH.front (.s .z)).front (.s .z))).mono ?_
                    rintro _ w ⟨rfl, hH⟩
                    refine ⟨_, rfl, fun a hF => J.of hF hH ?_⟩
                    refine J.p (PR.assign rfl) rfl ?_
                    refine J.nil ?_
                    refine EJ.thenN (hK34 ?_)
                    refine CJ.seq fun _ hK35 _ => ?_
                    refine CJ.region ?_
                    refine J.p (PR.assign rfl) rfl ?_
                    refine J.nil ?_
                    refine EJ.thenN (hK35 ?_)
                    refine CJ.seq fun _ hK36 _ => ?_
                    refine CJ.region ?_
                    refine J.p (PR.loadAll rfl (.s (.s (.s (.s (.s (.s (.s (.s (.s (.s .z)))))))))) (by simpa [*] using ag41)) rfl ?_
                    refine J.p (PR.move rfl) rfl ?_
                    refine J.call fn32 rfl rfl fun w hH => hH.lend .z fun Hl1 hle1 hA1 hB1 hH => hH.lend .z fun Hl2 hle2 hA2 hB2 hH => (heldAlgebra_c ((own_mints hA1).le hle2) (own_mforms (by omega) hA2) (by omega) (by omega) hH).mono ?_
                    rintro _ w ⟨rfl, hH⟩
                    replace hH := hB2 _ _ hH
                    replace hH := hB1 _ _ hH
                    refine ⟨_, rfl, fun a hF => J.of hF hH ?_⟩
                    refine J.p (PR.assign rfl) rfl ?_
                    refine J.nil ?_
                    refine EJ.thenN (hK36 ?_)
                    refine CJ.seq fun _ hK37 _ => ?_
                    refine CJ.seq fun _ hK38 _ => ?_
                    refine CJ.region ?_
                    refine J.p (PR.move rfl) rfl ?_
                    refine J.p (PR.lss rfl rfl) rfl ?_
                    refine J.nil ?_
                    refine EJ.thenN (hK38 ?_)
                    refine CJ.condD rfl (fun hc94 => ?_) (fun hc94 => ?_)
                    ·
                      refine CJ.seq fun _ hK39 _ => ?_
                      refine CJ.region ?_
                      refine J.p (PR.assign rfl) rfl ?_
                      refine J.nil ?_
                      refine EJ.thenN (hK39 ?_)
                      refine CJ.ret ?_
                      refine EJ.thenR ?_
                      refine EJ.ret1 rfl (Res.tmp rfl) fun w hH => ?_
                      replace hH := hH.tail
                      replace hH := hH.tail
                      replace hH := hH.tail
                      replace hH := hH.tail
                      replace hH := hH.tail
                      replace hH := hH.tail
                      replace hH := hH.tail
                      replace hH := hH.tail
                      replace hH := hH.tail
                      replace hH := hH.tail
                      replace hH := hH.tail
                      replace hH := hH.tail
                      replace hH := hH.tail
                      replace hH := hH.tail
                      replace hH := hH.tail
                      replace hH := hH.tail
                      replace hH := hH.tail
                      replace hH := hH.tail
                      replace hH := hH.tail
                      first | exact ⟨rfl, hH.below⟩ | exact absurd rfl hc94p | exact absurd rfl hc94 | (exfalso; omega) | (simp at hc94; done)
                    ·
                      refine CJ.skip ?_
                      refine EJ.thenN (hK37 ?_)
                      refine CJ.seq fun _ hK40 _ => ?_
                      refine CJ.seq fun _ hK41 _ => ?_
                      refine CJ.region ?_
                      refine J.p (PR.move rfl) rfl ?_
                      refine J.p (PR.move rfl) rfl ?_
                      refine J.p (PR.neq rfl rfl) rfl ?_
                      refine J.nil ?_
                      refine EJ.thenN (hK41 ?_)
                      refine CJ.condD rfl (fun hc97 => ?_) (fun hc97 => ?_)
                      ·
                        refine CJ.seq fun _ hK42 _ => ?_
                        refine CJ.region ?_
                        refine J.p (PR.assign rfl) rfl ?_
                        refine J.nil ?_
                        refine EJ.thenN (hK42 ?_)
                        refine CJ.ret ?_
                        refine EJ.thenR ?_
                        refine EJ.ret1 rfl (Res.tmp rfl) fun w hH => ?_
                        replace hH := hH.tail
                        replace hH := hH.tail
                        replace hH := hH.tail
                        replace hH := hH.tail
                        replace hH := hH.tail
                        replace hH := hH.tail
                        replace hH := hH.tail
                        replace hH := hH.tail
                        replace hH := hH.tail
                        replace hH := hH.tail
                        replace hH := hH.tail
                        replace hH := hH.tail
                        replace hH := hH.tail
                        replace hH := hH.tail
                        replace hH := hH.tail
                        replace hH := hH.tail
                        replace hH := hH.tail
                        replace hH := hH.tail
                        replace hH := hH.tail
                        first | exact ⟨rfl, hH.below⟩ | exact absurd rfl hc97p | exact absurd rfl hc97 | (exfalso; omega) | (simp at hc97; done)
                      ·
                        refine CJ.skip ?_
                        refine EJ.thenN (hK40 ?_)
                        refine CJ.seq fun _ hK43 _ => ?_
                        refine CJ.openR (Rs := [_, _, _, _, _, _, _, _, _, _, _, _, _, _, _, _, _, _, _]) 12 [[], [0], [], [], [0, 1, 3], [0, 1, 2, 3, 4], [0, 1, 2, 3, 4, 5], [0, 1, 2, 3, 4, 5, 6], [0, 1, 2, 3, 4, 5, 6], [], [0, 1, 2, 3, 4, 5, 6, 7, 9], [0, 1, 2, 3, 4, 5, 6, 7, 8, 9, 10]] [[30], [], [], [29], [], [1, 4], [], [], [], [], [], []] [[], [], [], [], [], [], [], [], [], [], [9], []] rfl rfl (by kernel_rfl) ?_
                        apply GJ.st0 1 rfl
                        · intro gh; conv => lhs; simp only [slotsZ, zlAt, vs0, resL, at2, eq_self, Nat.reduceEqDiff, reduceIte, Nat.reduceSub, Nat.reduceAdd, List.cons_append, List.nil_append]
                          all_goals rfl
                        · intro gh X; conv => lhs; simp only [slotsZ, zlAt, vs0, resL, at2, eq_self, Nat.reduceEqDiff, reduceIte, Nat.reduceSub, Nat.reduceAdd, List.cons_append, List.nil_append]
                          all_goals rfl
                        · intro gh X; conv => lhs; simp only [slotsZ, zlAt, vs0, resL, at2, eq_self, Nat.reduceEqDiff, reduceIte, Nat.reduceSub, Nat.reduceAdd, List.cons_append, List.nil_append]
                          all_goals rfl
                        ·
                          intro gh X K zq zc zq2 zc2 zb zv hK
                          refine J.p (PR.loadAll rfl At.z (by simpa [*] using ag49)) rfl ?_
                          refine J.nilK ?_
                          exact hK zq zc zq2 zc2 zb zv
                        ·
                          intro gh gh' h
                          rfl
                        apply GJ.st2 2 rfl
                        · intro gh; conv => lhs; simp only [slotsZ, zlAt, vs0, resL, at2, eq_self, Nat.reduceEqDiff, reduceIte, Nat.reduceSub, Nat.reduceAdd, List.cons_append, List.nil_append]
                          all_goals rfl
                        · intro gh X; conv => lhs; simp only [slotsZ, zlAt, vs0, resL, at2, eq_self, Nat.reduceEqDiff, reduceIte, Nat.reduceSub, Nat.reduceAdd, List.cons_append, List.nil_append]
                          all_goals rfl
                        · intro gh X; conv => lhs; simp only [slotsZ, zlAt, vs0, resL, at2, eq_self, Nat.reduceEqDiff, reduceIte, Nat.reduceSub, Nat.reduceAdd, List.cons_append, List.nil_append]
                          all_goals rfl
                        ·
                          intro gh X K zq zc zq2 zc2 zb zv hK
                          refine J.call fn35 rfl rfl fun w hH => (toAlgebra_c had haf (by omega) hl6 hH).mono ?_
                          rintro _ w ⟨qdo100, cdo100, qfo100, cfo100, vso100, rfl, hH⟩
                          refine ⟨_, rfl, fun a hF => J.of hF hH ?_⟩
                          refine J.nilK ?_
                          exact hK qdo100 cdo100 qfo100 cfo100 zb vso100
                        ·
                          intro gh gh' h
                          refine ⟨?_, ?_, ?_⟩ <;> rfl
                        apply GJ.st0 3 rfl
                        · intro gh; conv => lhs; simp only [slotsZ, zlAt, vs0, resL, at2, eq_self, Nat.reduceEqDiff, reduceIte, Nat.reduceSub, Nat.reduceAdd, List.cons_append, List.nil_append]
                          all_goals rfl
                        · intro gh X; conv => lhs; simp only [slotsZ, zlAt, vs0, resL, at2, eq_self, Nat.reduceEqDiff, reduceIte, Nat.reduceSub, Nat.reduceAdd, List.cons_append, List.nil_append]
                          all_goals rfl
                        · intro gh X; conv => lhs; simp only [slotsZ, zlAt, vs0, resL, at2, eq_self, Nat.reduceEqDiff, reduceIte, Nat.reduceSub, Nat.reduceAdd, List.cons_append, List.nil_append]
                          all_goals rfl
                        ·
                          intro gh X K zq zc zq2 zc2 zb zv hK
                          refine J.p (PR.move rfl) rfl ?_
                          refine J.nilK ?_
                          exact hK zq zc zq2 zc2 zb zv
                        ·
                          intro gh gh' h
                          rfl
                        apply GJ.st0 4 rfl
                        · intro gh; conv => lhs; simp only [slotsZ, zlAt, vs0, resL, at2, eq_self, Nat.reduceEqDiff, reduceIte, Nat.reduceSub, Nat.reduceAdd, List.cons_append, List.nil_append]
                          all_goals rfl
                        · intro gh X; conv => lhs; simp only [slotsZ, zlAt, vs0, resL, at2, eq_self, Nat.reduceEqDiff, reduceIte, Nat.reduceSub, Nat.reduceAdd, List.cons_append, List.nil_append]
                          all_goals rfl
                        · intro gh X; conv => lhs; simp only [slotsZ, zlAt, vs0, resL, at2, eq_self, Nat.reduceEqDiff, reduceIte, Nat.reduceSub, Nat.reduceAdd, List.cons_append, List.nil_append]
                          all_goals rfl
                        ·
                          intro gh X K zq zc zq2 zc2 zb zv hK
                          refine J.p (PR.loadAll rfl At.z (by simpa [*] using ag25)) rfl ?_
                          refine J.nilK ?_
                          exact hK zq zc zq2 zc2 zb zv
                        ·
                          intro gh gh' h
                          rfl
                        apply GJ.st1 5 rfl
                        · intro gh; conv => lhs; simp only [slotsZ, zlAt, vs0, resL, at2, eq_self, Nat.reduceEqDiff, reduceIte, Nat.reduceSub, Nat.reduceAdd, List.cons_append, List.nil_append]
                          all_goals rfl
                        · intro gh X; conv => lhs; simp only [slotsZ, zlAt, vs0, resL, at2, eq_self, Nat.reduceEqDiff, reduceIte, Nat.reduceSub, Nat.reduceAdd, List.cons_append, List.nil_append]
                          all_goals rfl
                        · intro gh X; conv => lhs; simp only [slotsZ, zlAt, vs0, resL, at2, eq_self, Nat.reduceEqDiff, reduceIte, Nat.reduceSub, Nat.reduceAdd, List.cons_append, List.nil_append]
                          all_goals rfl
                        ·
                          intro gh X K zq zc zq2 zc2 zb zv hK
                          refine J.call fn21 rfl rfl fun w hH => (toForm_c hts (by omega) hH).mono ?_
                          rintro _ w ⟨qo103, co103, rfl, hH⟩
                          refine ⟨_, rfl, fun a hF => J.of hF hH ?_⟩
                          refine J.nilK ?_
                          exact hK qo103 co103 zq2 zc2 zb zv
                        ·
                          intro gh gh' h
                          refine ⟨?_, ?_⟩ <;> (first | simp only [h 1 rfl] | rfl)
                        apply GJ.st2 6 rfl
                        · intro gh; conv => lhs; simp only [slotsZ, zlAt, vs0, resL, at2, eq_self, Nat.reduceEqDiff, reduceIte, Nat.reduceSub, Nat.reduceAdd, List.cons_append, List.nil_append]
                          all_goals rfl
                        · intro gh X; conv => lhs; simp only [slotsZ, zlAt, vs0, resL, at2, eq_self, Nat.reduceEqDiff, reduceIte, Nat.reduceSub, Nat.reduceAdd, List.cons_append, List.nil_append]
                          all_goals rfl
                        · intro gh X; conv => lhs; simp only [slotsZ, zlAt, vs0, resL, at2, eq_self, Nat.reduceEqDiff, reduceIte, Nat.reduceSub, Nat.reduceAdd, List.cons_append, List.nil_append]
                          all_goals rfl
                        ·
                          intro gh X K zq zc zq2 zc2 zb zv hK
                          refine J.call fn61 rfl rfl fun w hH => hH.lend .z fun Hl1 hle1 hA1 hB1 hH => hH.lend .z fun Hl2 hle2 hA2 hB2 hH => hH.lend .z fun Hl3 hle3 hA3 hB3 hH => (With_c (((own_ints hA1).le hle2).le hle3) ((own_forms haf.wfss hA2).le hle3) (own_terms hts.wfs hA3) (by omega) (by omega) hl6 (by omega) (own_le hA3) hH).mono ?_
                          rintro _ w ⟨qdo104, cdo104, qfo104, cfo104, vso104, rfl, hH⟩
                          replace hH := hB3 _ _ hH
                          replace hH := hB2 _ _ hH
                          replace hH := hB1 _ _ hH
                          refine ⟨_, rfl, fun a hF => J.of hF hH ?_⟩
                          refine EJ.front (.s (.s .z)) ?_
                          refine EJ.front (.s (.s .z)) ?_
                          refine EJ.front (.s (.s .z)) ?_
                          refine EJ.front (.s (.s (.s (.s .z)))) ?_
                          refine EJ.front (.s (.s (.s (.s .z)))) ?_
                          refine J.nilK ?_
                          exact hK qdo104 cdo104 qfo104 cfo104 zb vso104
                        ·
                          intro gh gh' h
                          refine ⟨?_, ?_, ?_⟩ <;> (first | simp only [h 1 rfl, h 4 rfl] | rfl)
                        apply GJ.st0 7 rfl
                        · intro gh; conv => lhs; simp only [slotsZ, zlAt, vs0, resL, at2, eq_self, Nat.reduceEqDiff, reduceIte, Nat.reduceSub, Nat.reduceAdd, List.cons_append, List.nil_append]
                          all_goals rfl
                        · intro gh X; conv => lhs; simp only [slotsZ, zlAt, vs0, resL, at2, eq_self, Nat.reduceEqDiff, reduceIte, Nat.reduceSub, Nat.reduceAdd, List.cons_append, List.nil_append]
                          all_goals rfl
                        · intro gh X; conv => lhs; simp only [slotsZ, zlAt, vs0, resL, at2, eq_self, Nat.reduceEqDiff, reduceIte, Nat.reduceSub, Nat.reduceAdd, List.cons_append, List.nil_append]
                          all_goals rfl
                        ·
                          intro gh X K zq zc zq2 zc2 zb zv hK
                          refine J.p (PR.move rfl) rfl ?_
                          refine J.nilK ?_
                          exact hK zq zc zq2 zc2 zb zv
                        ·
                          intro gh gh' h
                          first | simp only [h 1 rfl, h 4 rfl, h 5 rfl] | rfl
                        apply GJ.st0 8 rfl
                        · intro gh; conv => lhs; simp only [slotsZ, zlAt, vs0, resL, at2, eq_self, Nat.reduceEqDiff, reduceIte, Nat.reduceSub, Nat.reduceAdd, List.cons_append, List.nil_append]
                          all_goals rfl
                        · intro gh X; conv => lhs; simp only [slotsZ, zlAt, vs0, resL, at2, eq_self, Nat.reduceEqDiff, reduceIte, Nat.reduceSub, Nat.reduceAdd, List.cons_append, List.nil_append]
                          all_goals rfl
                        · intro gh X; conv => lhs; simp only [slotsZ, zlAt, vs0, resL, at2, eq_self, Nat.reduceEqDiff, reduceIte, Nat.reduceSub, Nat.reduceAdd, List.cons_append, List.nil_append]
                          all_goals rfl
                        ·
                          intro gh X K zq zc zq2 zc2 zb zv hK
                          refine J.p (PR.extract rfl rfl) rfl ?_
                          refine J.nilK ?_
                          exact hK zq zc zq2 zc2 zb zv
                        ·
                          intro gh gh' h
                          first | simp only [h 1 rfl, h 4 rfl, h 5 rfl] | rfl
                        apply GJ.st0 9 rfl
                        · intro gh; conv => lhs; simp only [slotsZ, zlAt, vs0, resL, at2, eq_self, Nat.reduceEqDiff, reduceIte, Nat.reduceSub, Nat.reduceAdd, List.cons_append, List.nil_append]
                          all_goals rfl
                        · intro gh X; conv => lhs; simp only [slotsZ, zlAt, vs0, resL, at2, eq_self, Nat.reduceEqDiff, reduceIte, Nat.reduceSub, Nat.reduceAdd, List.cons_append, List.nil_append]
                          all_goals rfl
                        · intro gh X; conv => lhs; simp only [slotsZ, zlAt, vs0, resL, at2, eq_self, Nat.reduceEqDiff, reduceIte, Nat.reduceSub, Nat.reduceAdd, List.cons_append, List.nil_append]
                          all_goals rfl
                        ·
                          intro gh X K zq zc zq2 zc2 zb zv hK
                          refine J.p (PR.extract rfl rfl) rfl ?_
                          refine J.nilK ?_
                          exact hK zq zc zq2 zc2 zb zv
                        ·
                          intro gh gh' h
                          first | simp only [h 1 rfl, h 4 rfl, h 5 rfl] | rfl
                        apply GJ.st1 10 rfl
                        · intro gh; conv => lhs; simp only [slotsZ, zlAt, vs0, resL, at2, eq_self, Nat.reduceEqDiff, reduceIte, Nat.reduceSub, Nat.reduceAdd, List.cons_append, List.nil_append]
                          all_goals rfl
                        · intro gh X; conv => lhs; simp only [slotsZ, zlAt, vs0, resL, at2, eq_self, Nat.reduceEqDiff, reduceIte, Nat.reduceSub, Nat.reduceAdd, List.cons_append, List.nil_append]
                          all_goals rfl
                        · intro gh X; conv => lhs; simp only [slotsZ, zlAt, vs0, resL, at2, eq_self, Nat.reduceEqDiff, reduceIte, Nat.reduceSub, Nat.reduceAdd, List.cons_append, List.nil_append]
                          all_goals rfl
                        ·
                          intro gh X K zq zc zq2 zc2 zb zv hK
                          refine J.alloc ze41 rfl fun g17 => ?_
                          refine J.nilK ?_
                          exact hK zq zc zq2 zc2 g17 zv
                        ·
                          intro gh gh' h
                          refine ⟨?_, ?_⟩ <;> rfl
                        apply GJ.sn1 11 rfl
                        · intro gh; conv => lhs; simp only [slotsZ, zlAt, vs0, resL, at2, eq_self, Nat.reduceEqDiff, reduceIte, Nat.reduceSub, Nat.reduceAdd, List.cons_append, List.nil_append]
                          all_goals rfl
                        · intro gh X; conv => lhs; simp only [slotsZ, zlAt, vs0, resL, at2, eq_self, Nat.reduceEqDiff, reduceIte, Nat.reduceSub, Nat.reduceAdd, List.cons_append, List.nil_append]
                          all_goals rfl
                        · intro gh X; conv => lhs; simp only [slotsZ, zlAt, vs0, resL, at2, eq_self, Nat.reduceEqDiff, reduceIte, Nat.reduceSub, Nat.reduceAdd, List.cons_append, List.nil_append]
                          all_goals rfl
                        ·
                          intro gh X K hK
                          refine J.storeAll rfl rfl (by first | exact bytesC_one _ | exact intsC_one _ | exact Term.c_one _ | simp [Value.oneCell']) (by simpa [*] using sz41) (by simp [*]) At.z ?_
                          refine J.nilK ?_
                          exact hK
                        ·
                          intro gh gh' h
                          first | simp only [h 1 rfl, h 4 rfl, h 5 rfl, h 9 rfl] | rfl
                        apply GJ.st0 12 rfl
                        · intro gh; conv => lhs; simp only [slotsZ, zlAt, vs0, resL, at2, eq_self, Nat.reduceEqDiff, reduceIte, Nat.reduceSub, Nat.reduceAdd, List.cons_append, List.nil_append]
                          all_goals rfl
                        · intro gh X; conv => lhs; simp only [slotsZ, zlAt, vs0, resL, at2, eq_self, Nat.reduceEqDiff, reduceIte, Nat.reduceSub, Nat.reduceAdd, List.cons_append, List.nil_append]
                          all_goals rfl
                        · intro gh X; conv => lhs; simp only [slotsZ, zlAt, vs0, resL, at2, eq_self, Nat.reduceEqDiff, reduceIte, Nat.reduceSub, Nat.reduceAdd, List.cons_append, List.nil_append]
                          all_goals rfl
                        ·
                          intro gh X K zq zc zq2 zc2 zb zv hK
                          refine J.p (PR.assign rfl) rfl ?_
                          refine J.nilK ?_
                          exact hK zq zc zq2 zc2 zb zv
                        ·
                          intro gh gh' h
                          first | simp only [h 1 rfl, h 4 rfl, h 5 rfl, h 9 rfl] | rfl
                        apply GJ.close [0, 1, 2, 3, 4, 5, 6, 7, 8, 9, 10, 11] [0, 1, 2, 3, 4, 5, 6, 7, 8, 10, 11, 12, 13, 14, 15, 16, 17, 18, 19, 20, 21, 22, 23, 24, 25, 26, 27, 28, 29, 30] foll0 rfl rfl rfl (by rfl)
                        · intro gh; conv => lhs; simp only [slotsZ, zlAt, vs0, resL, at2, eq_self, Nat.reduceEqDiff, reduceIte, Nat.reduceSub, Nat.reduceAdd, List.cons_append, List.nil_append]
                          all_goals rfl
                        · intro gh; conv => lhs; simp only [slotsZ, zlAt, vs0, resL, at2, eq_self, Nat.reduceEqDiff, reduceIte, Nat.reduceSub, Nat.reduceAdd, List.cons_append, List.nil_append]
                          all_goals rfl
                        intro gh
                        generalize (gh 1).c = cdo100
                        generalize (gh 1).c2 = cfo100
                        generalize (gh 1).q = qdo100
                        generalize (gh 1).q2 = qfo100
                        generalize (gh 1).vs = vso100
                        generalize (gh 4).c = co103
                        generalize (gh 4).q = qo103
                        generalize (gh 5).c = cdo104
                        generalize (gh 5).c2 = cfo104
                        generalize (gh 5).q = qdo104
                        generalize (gh 5).q2 = qfo104
                        generalize (gh 5).vs = vso104
                        generalize (gh 9).b = g17
                        clear gh
                        refine EJ.thenN (hK43 ?_)
                        refine CJ.seq fun _ hK44 _ => ?_
                        refine CJ.seq fun _ hK45 _ => ?_
                        refine CJ.region ?_
                        refine J.p (PR.loadAll rfl (.s (.s (.s (.s (.s .z))))) (by simpa [*] using ag41)) rfl ?_
                        refine J.p (PR.loadAll rfl (.s (.s (.s (.s (.s (.s (.s (.s (.s (.s (.s (.s (.s (.s (.s (.s (.s (.s (.s (.s (.s (.s .z)))))))))))))))))))))) (by simpa [*] using ag41)) rfl ?_
                        refine J.call fn30 rfl rfl fun w hH => hH.lend (.s (.s (.s .z))) fun Hl1 hle1 hA1 hB1 hH => hH.lend (.s (.s (.s .z))) fun Hl2 hle2 hA2 hB2 hH => hH.lend (.s (.s (.s (.s (.s (.s .z)))))) fun Hl3 hle3 hA3 hB3 hH => hH.lend (.s (.s (.s (.s (.s (.s .z)))))) fun Hl4 hle4 hA4 hB4 hH => (eqAlgebra_c ((((own_ints hA1).le hle2).le hle3).le hle4) (((own_forms (wgF_wf haf.wfss hts.wfs.wfs) hA2).le hle3).le hle4) ((own_ints hA3).le hle4) (own_forms (wgF_wf haf.wfss hts.wfs.wfs) hA4) (by omega) (by omega) f4 hH).mono ?_
                        rintro _ w ⟨rfl, hH⟩
                        replace hH := hB4 _ _ hH
                        replace hH := hB3 _ _ hH
                        replace hH := hB2 _ _ hH
                        replace hH := hB1 _ _ hH
                        refine ⟨_, rfl, fun a hF => J.of hF hH ?_⟩
                        refine J.p (PR.not rfl) rfl ?_
                        refine J.p (PR.move rfl) rfl ?_
                        refine J.splitB (jd := 111) rfl (fun hg111 => ?_) (fun hg111 => ?_)
                        ·
                          try have hg111p := of_decide_eq_true hg111
                          refine J.gn rfl rfl rfl hg111 ?_
                          refine J.gn rfl rfl rfl hg111 ?_
                          refine J.gn rfl rfl rfl hg111 ?_
                          refine J.p (PR.pickT rfl hg111 rfl) rfl ?_
                          refine J.nil ?_
                          refine EJ.thenN (hK45 ?_)
                          refine CJ.condT rfl ?_
                          refine CJ.seq fun _ hK46 _ => ?_
                          refine CJ.region ?_
                          refine J.p (PR.assign rfl) rfl ?_
                          refine J.nil ?_
                          refine EJ.thenN (hK46 ?_)
                          refine CJ.ret ?_
                          refine EJ.thenR ?_
                          refine EJ.ret1 rfl (Res.tmp rfl) fun w hH => ?_
                          replace hH := hH.tail
                          replace hH := hH.tail
                          replace hH := hH.tail
                          replace hH := hH.tail
                          replace hH := hH.tail
                          replace hH := hH.tail
                          replace hH := hH.tail
                          replace hH := hH.tail
                          replace hH := hH.tail
                          replace hH := hH.tail
                          replace hH := hH.tail
                          replace hH := hH.tail
                          replace hH := hH.tail
                          replace hH := hH.tail
                          replace hH := hH.tail
                          replace hH := hH.tail
                          replace hH := hH.tail
                          replace hH := hH.tail
                          replace hH := hH.tail
                          replace hH := hH.tail
                          replace hH := hH.tail
                          replace hH := hH.tail
                          replace hH := hH.tail
                          replace hH := hH.tail
                          replace hH := hH.tail
                          first | exact ⟨rfl, hH.below⟩ | exact absurd rfl hg111p | exact absurd rfl hg111 | (exfalso; omega) | (simp at hg111; done)
                        ·
                          try have hg111p := of_decide_eq_false hg111
                          refine J.gy (PR.move rfl) rfl rfl rfl hg111 ?_
                          refine J.gy (PR.move rfl) rfl rfl rfl hg111 ?_
                          refine J.gy (PR.neq rfl rfl) rfl rfl rfl hg111 ?_
                          refine J.p (PR.pickF rfl hg111 rfl) rfl ?_
                          refine J.nil ?_
                          refine EJ.thenN (hK45 ?_)
                          refine CJ.condD rfl (fun hc115 => ?_) (fun hc115 => ?_)
                          ·
                            refine CJ.seq fun _ hK47 _ => ?_
                            refine CJ.region ?_
                            refine J.p (PR.assign rfl) rfl ?_
                            refine J.nil ?_
                            refine EJ.thenN (hK47 ?_)
                            refine CJ.ret ?_
                            refine EJ.thenR ?_
                            refine EJ.ret1 rfl (Res.tmp rfl) fun w hH => ?_
                            replace hH := hH.tail
                            replace hH := hH.tail
                            replace hH := hH.tail
                            replace hH := hH.tail
                            replace hH := hH.tail
                            replace hH := hH.tail
                            replace hH := hH.tail
                            replace hH := hH.tail
                            replace hH := hH.tail
                            replace hH := hH.tail
                            replace hH := hH.tail
                            replace hH := hH.tail
                            replace hH := hH.tail
                            replace hH := hH.tail
                            replace hH := hH.tail
                            replace hH := hH.tail
                            replace hH := hH.tail
                            replace hH := hH.tail
                            replace hH := hH.tail
                            replace hH := hH.tail
                            replace hH := hH.tail
                            replace hH := hH.tail
                            replace hH := hH.tail
                            replace hH := hH.tail
                            replace hH := hH.tail
                            first | exact ⟨rfl, hH.below⟩ | exact absurd rfl hc115p | exact absurd rfl hc115 | (exfalso; omega) | (simp at hc115; done)
                          ·
                            refine CJ.skip ?_
                            refine EJ.thenN (hK44 ?_)
                            refine CJ.seq fun _ hK48 _ => ?_
                            refine CJ.region ?_
                            refine J.p (PR.assign rfl) rfl ?_
                            refine J.nil ?_
                            refine EJ.thenN (hK48 ?_)
                            refine CJ.seq fun _ hK49 _ => ?_
                            refine CJ.region ?_
                            refine J.p (PR.loadAll rfl (.s (.s (.s (.s (.s (.s (.s (.s (.s (.s (.s (.s (.s (.s (.s (.s .z)))))))))))))))) (by simpa [*] using ag41)) rfl ?_
                            refine J.p (PR.move rfl) rfl ?_
                            refine J.call fn32 rfl rfl fun w hH => hH.lend (.s (.s (.s (.s (.s (.s (.s (.s .z)))))))) fun Hl1 hle1 hA1 hB1 hH => hH.lend (.s (.s (.s (.s (.s (.s (.s (.s .z)))))))) fun Hl2 hle2 hA2 hB2 hH => (heldAlgebra_c ((own_mints hA1).le hle2) (own_mforms (by omega) hA2) (by omega) (by omega) hH).mono ?_
                            rintro _ w ⟨rfl, hH⟩
                            replace hH := hB2 _ _ hH
                            replace hH := hB1 _ _ hH
                            refine ⟨_, rfl, fun a hF => J.of hF hH ?_⟩
                            refine J.p (PR.assign rfl) rfl ?_
                            refine J.nil ?_
                            refine EJ.thenN (hK49 ?_)
                            refine CJ.seq fun _ hK50 _ => ?_
                            refine CJ.seq fun _ hK51 _ => ?_
                            refine CJ.region ?_
                            refine J.p (PR.move rfl) rfl ?_
                            refine J.p (PR.lss rfl rfl) rfl ?_
                            refine J.nil ?_
                            refine EJ.thenN (hK51 ?_)
                            refine CJ.condD rfl (fun hc120 => ?_) (fun hc120 => ?_)
                            ·
                              refine CJ.seq fun _ hK52 _ => ?_
                              refine CJ.region ?_
                              refine J.p (PR.assign rfl) rfl ?_
                              refine J.nil ?_
                              refine EJ.thenN (hK52 ?_)
                              refine CJ.ret ?_
                              refine EJ.thenR ?_
                              refine EJ.ret1 rfl (Res.tmp rfl) fun w hH => ?_
                              replace hH := hH.tail
                              replace hH := hH.tail
                              replace hH := hH.tail
                              replace hH := hH.tail
                              replace hH := hH.tail
                              replace hH := hH.tail
                              replace hH := hH.tail
                              replace hH := hH.tail
                              replace hH := hH.tail
                              replace hH := hH.tail
                              replace hH := hH.tail
                              replace hH := hH.tail
                              replace hH := hH.tail
                              replace hH := hH.tail
                              replace hH := hH.tail
                              replace hH := hH.tail
                              replace hH := hH.tail
                              replace hH := hH.tail
                              replace hH := hH.tail
                              replace hH := hH.tail
                              replace hH := hH.tail
                              replace hH := hH.tail
                              replace hH := hH.tail
                              replace hH := hH.tail
                              replace hH := hH.tail
                              first | exact ⟨rfl, hH.below⟩ | exact absurd rfl hc120p | exact absurd rfl hc120 | (exfalso; omega) | (simp at hc120; done)
                            ·
                              refine CJ.skip ?_
                              refine EJ.thenN (hK50 ?_)
                              refine CJ.seq fun _ hK53 _ => ?_
                              refine CJ.seq fun _ hK54 _ => ?_
                              refine CJ.region ?_
                              refine J.p (PR.move rfl) rfl ?_
                              refine J.p (PR.move rfl) rfl ?_
                              refine J.p (PR.neq rfl rfl) rfl ?_
                              refine J.nil ?_
                              refine EJ.thenN (hK54 ?_)
                              refine CJ.condD rfl (fun hc123 => ?_) (fun hc123 => ?_)
                              ·
                                refine CJ.seq fun _ hK55 _ => ?_
                                refine CJ.region ?_
                                refine J.p (PR.assign rfl) rfl ?_
                                refine J.nil ?_
                                refine EJ.thenN (hK55 ?_)
                                refine CJ.ret ?_
                                refine EJ.thenR ?_
                                refine EJ.ret1 rfl (Res.tmp rfl) fun w hH => ?_
                                replace hH := hH.tail
                                replace hH := hH.tail
                                replace hH := hH.tail
                                replace hH := hH.tail
                                replace hH := hH.tail
                                replace hH := hH.tail
                                replace hH := hH.tail
                                replace hH := hH.tail
                                replace hH := hH.tail
                                replace hH := hH.tail
                                replace hH := hH.tail
                                replace hH := hH.tail
                                replace hH := hH.tail
                                replace hH := hH.tail
                                replace hH := hH.tail
                                replace hH := hH.tail
                                replace hH := hH.tail
                                replace hH := hH.tail
                                replace hH := hH.tail
                                replace hH := hH.tail
                                replace hH := hH.tail
                                replace hH := hH.tail
                                replace hH := hH.tail
                                replace hH := hH.tail
                                replace hH := hH.tail
                                first | exact ⟨rfl, hH.below⟩ | exact absurd rfl hc123p | exact absurd rfl hc123 | (exfalso; omega) | (simp at hc123; done)
                              ·
                                refine CJ.skip ?_
                                refine EJ.thenN (hK53 ?_)
                                refine CJ.seq fun _ hK56 _ => ?_
                                refine CJ.region ?_
                                refine J.p (PR.assign rfl) rfl ?_
                                refine J.nil ?_
                                refine EJ.thenN (hK56 ?_)
                                refine CJ.ret ?_
                                refine EJ.ret1 rfl (Res.tmp rfl) fun w hH => ?_
                                replace hH := hH.tail
                                replace hH := hH.tail
                                replace hH := hH.tail
                                replace hH := hH.tail
                                replace hH := hH.tail
                                replace hH := hH.tail
                                replace hH := hH.tail
                                replace hH := hH.tail
                                replace hH := hH.tail
                                replace hH := hH.tail
                                replace hH := hH.tail
                                replace hH := hH.tail
                                replace hH := hH.tail
                                replace hH := hH.tail
                                replace hH := hH.tail
                                replace hH := hH.tail
                                replace hH := hH.tail
                                replace hH := hH.tail
                                replace hH := hH.tail
                                replace hH := hH.tail
                                replace hH := hH.tail
                                replace hH := hH.tail
                                replace hH := hH.tail
                                replace hH := hH.tail
                                replace hH := hH.tail
                                first | exact ⟨rfl, hH.below⟩ | exact absurd rfl hc123p | exact absurd rfl hc123 | (exfalso; omega) | (simp at hc123; done)
end Go.Proofs.Ytpojpokldncglaa.G
namespace Go.Proofs.Ytpojpokldncglaa.fnExactWithGenerator
open Go.ChangeShapes Go.WideShapes Go.ChangeAt Go.RowKit
open Go.Proofs.Ytpojpokldncglaa.G
theorem u49 : Try.prog.underlying 49 = some (TypeDesc.struct #[{ name := "Degrees", type := 22, offset := 0, embedded := false, tag := "", pkgPath := "", byteOffset := 0 }, { name := "Images", type := 47, offset := 1, embedded := false, tag := "", pkgPath := "", byteOffset := 24 }]) := by kernel_rfl
theorem u22 : Try.prog.underlying 22 = some (TypeDesc.slice 2) := by kernel_rfl
theorem u2 : Try.prog.underlying 2 = some (TypeDesc.int .i64) := by kernel_rfl
theorem u47 : Try.prog.underlying 47 = some (TypeDesc.slice 25) := by kernel_rfl
theorem u25 : Try.prog.underlying 25 = some (TypeDesc.struct #[{ name := "Terms", type := 23, offset := 0, embedded := false, tag := "", pkgPath := "", byteOffset := 0 }]) := by kernel_rfl
theorem u23 : Try.prog.underlying 23 = some (TypeDesc.slice 139) := by kernel_rfl
theorem u139 : Try.prog.underlying 139 = some (TypeDesc.struct #[{ name := "Monomial", type := 85, offset := 0, embedded := false, tag := "", pkgPath := "", byteOffset := 0 }, { name := "Factor", type := 2, offset := 8, embedded := false, tag := "", pkgPath := "", byteOffset := 8 }]) := by kernel_rfl
theorem u85 : Try.prog.underlying 85 = some (TypeDesc.array 8 5) := by kernel_rfl
theorem u5 : Try.prog.underlying 5 = some (TypeDesc.int .u8) := by kernel_rfl
theorem u4 : Try.prog.underlying 4 = some (TypeDesc.bool) := by kernel_rfl
theorem own : ownKnob Try.prog.godebug = none := by kernel_rfl
set_option maxRecDepth 100000 in
theorem lifted (os : Os) (started : os.Started) (H : Type) (enc : TypeId × Value → H) :
    ReturnsInHanded {} Try.checked os 14 .any (Rows.fnExactWithGeneratorSpec.pre6 enc Try.prog Try.f14 Rows.fnExactWithGeneratorRow.domain false) (Rows.fnExactWithGeneratorSpec.post enc Try.prog Try.f14 false true false false) := by
  refine returnsInHanded_of_change_sized (C := Try.checked) own started (by kernel_rfl) Try.func14
    (ChangeSpec.witness6 (enc := enc) (C := Try.checked) false ⟨#[], #[.agg #[.slice none 0 0, .slice none 0 0], .int .i64 0, .agg #[.slice none 0 0]], []⟩ 12 (by kernel_rfl) (by kernel_rfl) (by kernel_rfl) (by kernel_rfl)) ?_
  intro W base args ds gs before hval0 hW hcnd hsz0 _
  have hval : ∀ (j : Nat) t v, Try.f14.params[j]? = some t → args[j]? = some v → Value.okWide Try.prog W .any base t v := hval0
  have hW' := hW
  obtain ⟨p, q, hA0, hV, rfl, hfz, hnd⟩ := hW
  have hA : DataW.TrodAll enc Try.prog W 0 (fun _ => true) true Try.f14.params.toList args.toList ds p := hA0
  rw [Try.params14] at hA hval
  obtain ⟨v0, vs0, d0, ds0, p0, q0, hargs, rfl, rfl, h0, r0⟩ := trodAll_cons hA
  obtain ⟨v1, vs1, d1, ds1, p1, q1, rfl, rfl, rfl, h1, r1⟩ := trodAll_cons r0
  obtain ⟨v2, vs2, d2, ds2, p2, q2, rfl, rfl, rfl, h2, r2⟩ := trodAll_cons r1
  obtain ⟨rfl, rfl, rfl⟩ := trodAll_nil r2
  obtain rfl : args = #[v0, v1, v2] := by cases args; simp_all
  obtain ⟨rfl, rfl⟩ := trodVars_none hV
  obtain ⟨q0d, c0d, ds0, q0f, c0f, fs0, rfl, X0, F0, le0, fl0⟩ := openV_alg u49 rfl rfl rfl rfl (by kernel_rfl) (by kernel_rfl) (by kernel_rfl) u22 u2 (by kernel_rfl) u47 (by kernel_rfl) (fun n l y hy => tr_form u25 rfl rfl (by kernel_rfl) (by kernel_rfl) u23 (by kernel_rfl) u139 rfl rfl rfl rfl u85 u5 (by kernel_rfl) (by kernel_rfl) u2 (by kernel_rfl) hy) (hval 0 49 v0 rfl rfl) h0
  obtain ⟨a1, rfl, lo1, hi1⟩ := openV_int u2 (hval 1 2 v1 rfl rfl) h1
  obtain ⟨q2, c2, ts2, rfl, X2, le2⟩ := openV_form u25 rfl rfl (by kernel_rfl) (by kernel_rfl) u23 (by kernel_rfl) u139 rfl rfl rfl rfl u85 u5 (by kernel_rfl) (by kernel_rfl) u2 (by kernel_rfl) (hval 2 25 v2 rfl rfl) h2
  clear hA0 hval0 hsz0
  refine ((lawWith_c X0 F0 X2 le0 fl0 le2 (Hp.start (H := hp W) fun _ _ h => h)).mono fun e W' ⟨he, bel⟩ => ?_)
  subst he
  exact ⟨_, rfl, law_post (f := Try.f14) (by kernel_rfl) (by kernel_rfl) rfl rfl u4 rfl hW' bel⟩
theorem joined : joinedFacts Try.prog 14 Try.f14 Rows.fnExactWithGeneratorSpec Rows.fnExactWithGeneratorRow = true := by
  unfold joinedFacts
  simp only [Bool.and_eq_true]
  repeat' apply And.intro
  all_goals first
    | with_reducible exact Facts.fEnter
    | with_reducible exact Facts.fLaid
    | with_reducible exact Facts.fMaps
    | with_reducible exact Facts.fHeard
    | (rw [Facts.fMake]; rfl)
    | (rw [Facts.fLift]; rfl)
    | (rw [Facts.fKeys]; rfl)
    | (rw [Facts.fStops]; rfl)
    | (rw [Facts.fStopK]; rfl)
    | as_aux_lemma => kernel_rfl
theorem over : Rows.fnExactWithGeneratorRow.holds Try.pinned (OpenSpec.ofChange Rows.fnExactWithGeneratorSpec) :=
  OpenClaim.holds_of_wide 14 Try.f14 rfl rfl rfl rfl rfl rfl rfl ⟨rfl, rfl, rfl, rfl, rfl⟩ rfl rfl rfl rfl rfl (by as_aux_lemma => kernel_rfl) Try.func14 joined
    (of_decide_eq_true (by as_aux_lemma => kernel_rfl)) (by unfold Func.isWrapper; first | (rw [if_pos (by decide +kernel)]; kernel_rfl) | (rw [if_neg (by decide +kernel)]; exact ⟨rfl, rfl⟩))
    (fun os started H enc _ => lifted os started H enc)
theorem proved : Rows.FnExactWithGeneratorSaid := over
#print axioms proved
end Go.Proofs.Ytpojpokldncglaa.fnExactWithGenerator
namespace Go.Proofs.Ytpojpokldncglaa
theorem fnExactWithGenerator_holds : Rows.FnExactWithGeneratorSaid := fnExactWithGenerator.proved
end Go.Proofs.Ytpojpokldncglaa
