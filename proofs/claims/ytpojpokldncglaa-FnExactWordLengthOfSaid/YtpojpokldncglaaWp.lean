/- The walks: what each Go function does, shown from its text. No condition. -/
import Derived.Test.YtpojpokldncglaaGSlice
import Derived.Test.YtpojpokldncglaaProg
import Derived.Test.YtpojpokldncglaaWa
import Derived.Test.YtpojpokldncglaaWb
import Derived.Test.YtpojpokldncglaaWc
import Derived.Test.YtpojpokldncglaaWd
import Derived.Test.YtpojpokldncglaaWe
import Derived.Test.YtpojpokldncglaaWf
import Derived.Test.YtpojpokldncglaaWg
import Derived.Test.YtpojpokldncglaaWh
import Derived.Test.YtpojpokldncglaaWi
import Derived.Test.YtpojpokldncglaaWj
import Derived.Test.YtpojpokldncglaaWk
import Derived.Test.YtpojpokldncglaaWl
import Derived.Test.YtpojpokldncglaaWm
import Derived.Test.YtpojpokldncglaaWn
import Derived.Test.YtpojpokldncglaaWo
set_option linter.unusedVariables false
set_option linter.unusedSimpArgs false
namespace Go.Proofs.Ytpojpokldncglaa.G
open Go Go.RowKit
namespace Wp
theorem u2 : Try.prog.underlying 2 = some (TypeDesc.int .i64) := by kernel_rfl
theorem u22 : Try.prog.underlying 22 = some (TypeDesc.slice 2) := by kernel_rfl
theorem u27 : Try.prog.underlying 27 = some (TypeDesc.slice 88) := by kernel_rfl
theorem u29 : Try.prog.underlying 29 = some (TypeDesc.struct #[{ name := "Terms", type := 27, offset := 0, embedded := false, tag := "", pkgPath := "", byteOffset := 0 }]) := by kernel_rfl
theorem u86 : Try.prog.underlying 86 = some (TypeDesc.array 8 5) := by kernel_rfl
theorem u88 : Try.prog.underlying 88 = some (TypeDesc.struct #[{ name := "Monomial", type := 86, offset := 0, embedded := false, tag := "", pkgPath := "", byteOffset := 0 }, { name := "Factor", type := 2, offset := 8, embedded := false, tag := "", pkgPath := "", byteOffset := 8 }]) := by kernel_rfl
theorem u94 : Try.prog.underlying 94 = some (TypeDesc.array 8 3) := by kernel_rfl
theorem u96 : Try.prog.underlying 96 = some (TypeDesc.func #[94] #[4] false) := by kernel_rfl
theorem sz2 : Size Try.prog 2 1 := by unfold Size; kernel_rfl
theorem sz27 : Size Try.prog 27 1 := by unfold Size; kernel_rfl
theorem sz29 : Size Try.prog 29 1 := by unfold Size; kernel_rfl
theorem sz86 : Size Try.prog 86 8 := by unfold Size; kernel_rfl
theorem ze2 : Zero Try.prog 2 [.int .i64 0] := by unfold Zero; kernel_rfl
theorem ze29 : Zero Try.prog 29 [.slice none 0 0] := by unfold Zero; kernel_rfl
theorem bz29 : ∀ w, (Instr.build 29 #[]).run Try.prog w = .ok (.agg [.slice none 0 0].toArray) w := fun _ => by kernel_rfl
theorem pl2 : Plain Try.prog 2 := ⟨_, u2, rfl⟩
theorem pl22 : Plain Try.prog 22 := ⟨_, u22, rfl⟩
theorem pl27 : Plain Try.prog 27 := ⟨_, u27, rfl⟩
theorem pl96 : Plain Try.prog 96 := ⟨_, u96, rfl⟩
theorem ag29 : Agg Try.prog 29 1 := ⟨_, u29, rfl, by kernel_rfl⟩
theorem ag86 : Agg Try.prog 86 8 := ⟨_, u86, rfl, by kernel_rfl⟩
theorem ag94 : Agg Try.prog 94 8 := ⟨_, u94, rfl, by kernel_rfl⟩
theorem fn131 : Fn Try.prog 131 := ⟨_, Try.func131, by kernel_rfl, rfl⟩
theorem fn132 : Fn Try.prog 132 := ⟨_, Try.func132, by kernel_rfl, rfl⟩
theorem fn133 : Fn Try.prog 133 := ⟨_, Try.func133, by kernel_rfl, rfl⟩
theorem fn134 : Fn Try.prog 134 := ⟨_, Try.func134, by kernel_rfl, rfl⟩
theorem fn74 : Fn Try.prog 74 := ⟨_, Try.func74, by kernel_rfl, rfl⟩
theorem fn75 : Fn Try.prog 75 := ⟨_, Try.func75, by kernel_rfl, rfl⟩
theorem fn76 : Fn Try.prog 76 := ⟨_, Try.func76, by kernel_rfl, rfl⟩
theorem fn77 : Fn Try.prog 77 := ⟨_, Try.func77, by kernel_rfl, rfl⟩
theorem fn78 : Fn Try.prog 78 := ⟨_, Try.func78, by kernel_rfl, rfl⟩
theorem fn79 : Fn Try.prog 79 := ⟨_, Try.func79, by kernel_rfl, rfl⟩
theorem bd29_0 : ∀ (q0 : Option Addr) (m0 c0 : Nat) w, (Instr.build 29 #[(0, .slice q0 m0 c0)]).run Try.prog w = .ok (.agg [.slice q0 m0 c0].toArray) w := fun q0 m0 c0 _ => by kernel_rfl
theorem foll0 : Try.prog.follows .mixedOrders = true := by kernel_rfl
end Wp
open Wp
set_option maxRecDepth 10000 in
theorem PartOfForm1_c {B : World} {H0 H : HP} {L : List SA} {w : World} {p : List Int} {bds : Nat} {qds : Option Addr} {cds : Nat} {ds : List Int} {bn : Nat} {n : Int}  (hp : p.length = 8) (kds : cellO H (some ⟨bds, 0, none⟩) 0 = some (.slice qds ds.length cds)) (hds : Ints H qds ds) (kn : cellO H (some ⟨bn, 0, none⟩) 0 = some (.int .i64 n)) (hn : ds.length ≤ 8) (hd : ∀ j, 0 ≤ ds.getD j 0 ∧ ds.getD j 0 ≤ 12) (hs : Small p) (hH : Hp B H0 H L w) :
    Calls Try.prog 78 [.agg (intsC p).toArray, .pointer (some ⟨bds, 0, none⟩), .pointer (some ⟨bn, 0, none⟩)].toArray w fun e w' => e = .returned (.bool (decide (wsum ds p ds.length = n))) ∧ Hp B H0 H L w' := by
  refine CJ.enter Try.func78 rfl 10 rfl rfl [(0, .agg (intsC p).toArray), (1, .pointer (some ⟨bds, 0, none⟩)), (2, .pointer (some ⟨bn, 0, none⟩))] rfl hH ?_
  clear hH
  refine CJ.seq fun _ hK1 _ => ?_
  refine CJ.region ?_
  refine J.box rfl rfl rfl fun g3 => ?_
  refine J.p (PR.assign rfl) rfl ?_
  refine J.nil ?_
  refine EJ.thenN (hK1 ?_)
  refine CJ.seq fun _ hK2 _ => ?_
  refine CJ.head [[], [], [0, 1], []] (by kernel_rfl) ?_
  refine HJ.op (fun gh => PR.loadAll rfl At.z (by simpa [*] using ag94)) ?_
  refine HJ.op (fun gh => PR.loadH (q := some ⟨bds, 0, none⟩) (k := 0) rfl kds pl22) ?_
  refine HJ.call fn79 (fun gh => rfl) (fun w X hH => degree_c hp hds hn hd hs hH) ?_
  refine HJ.op (fun gh => PR.loadH (q := some ⟨bn, 0, none⟩) (k := 0) rfl kn pl2) ?_
  refine HJ.close 4 0 foll0 (by kernel_rfl) rfl rfl fun gh => ?_
  refine J.conv (us' := (5, _) :: (6, _) :: (7, _) :: (8, _) :: _) (L' := _) rfl rfl ?_
  refine J.nil ?_
  refine EJ.still ?_
  refine JS.op (PR.eql rfl rfl) rfl ?_
  refine JS.op (PR.assign rfl) rfl ?_
  refine JS.nil ?_
  refine EJ.thenN (hK2 ?_)
  refine CJ.ret ?_
  refine EJ.ret1 rfl (Res.tmp rfl) fun w hH => ?_
  replace hH := hH.tail
  exact ⟨rfl, hH⟩
set_option maxRecDepth 10000 in
theorem part1_c {B : World} {H0 H : HP} {L : List SA} {w : World} {t : Term} {bp gp : Nat} {capp : Array Value} {p : List Int → Bool}  (ht : t.wf) (kp : cellO H (some ⟨bp, 0, none⟩) 0 = some (.func (.func gp) #[] capp)) (hgp : Fn Try.prog gp) (hp : ClP B H0 H gp capp p) (hH : Hp B H0 H L w) :
    Calls Try.prog 133 [.agg t.c.toArray, .pointer (some ⟨bp, 0, none⟩)].toArray w fun e w' => e = .returned (.bool (!(p t.mono))) ∧ Hp B H0 H L w' := by
  refine CJ.enter Try.func133 rfl 10 rfl rfl [(0, .agg t.c.toArray), (1, .pointer (some ⟨bp, 0, none⟩))] rfl hH ?_
  clear hH
  refine CJ.seq fun _ hK1 _ => ?_
  refine CJ.region ?_
  refine J.box rfl rfl rfl fun g2 => ?_
  refine J.p (PR.assign rfl) rfl ?_
  refine J.nil ?_
  refine EJ.thenN (hK1 ?_)
  refine CJ.seq fun _ hK2 _ => ?_
  refine CJ.head [[], [], [1], [2]] (by kernel_rfl) ?_
  refine HJ.op (fun gh => PR.loadH (q := some ⟨bp, 0, none⟩) (k := 0) rfl kp pl96) ?_
  refine HJ.op (fun gh => PR.fldA u88 rfl sz86 rfl) ?_
  refine HJ.op (fun gh => PR.ldMono rfl At.z ht ag86) ?_
  refine HJ.call fn134 (fun gh => rfl) (fun w X hH => powerOf_c ht.mono hH) ?_
  refine HJ.close 4 1 foll0 (by kernel_rfl) rfl rfl fun gh => ?_
  refine J.conv (us' := (4, _) :: (5, _) :: (6, _) :: (7, _) :: _) (L' := _) rfl rfl ?_
  refine J.callV hgp rfl rfl rfl fun w hH => (hp _ _ w _ (Le.refl _) ht.mono.len (ht.mono.small) hH).mono ?_
  rintro _ w ⟨rfl, hH⟩
  refine ⟨_, rfl, fun a hF => J.of hF hH ?_⟩
  refine J.nil ?_
  refine EJ.still ?_
  refine JS.op (PR.not rfl) rfl ?_
  refine JS.op (PR.assign rfl) rfl ?_
  refine JS.nil ?_
  refine EJ.thenN (hK2 ?_)
  refine CJ.ret ?_
  refine EJ.ret1 rfl (Res.tmp rfl) fun w hH => ?_
  replace hH := hH.tail
  exact ⟨rfl, hH⟩

theorem Hp.weaken {B : World} {H0 H H2 : HP} {L : List SA} {w : World} (h : Hp B H0 H2 L w) (hle : Le H H2) (ho : ∀ b, b < B.heap.size → H b = H0 b) (h1 : Le H0 H) : Hp B H0 H L w :=
  ⟨h.below, fun b o hb => h.agree b o (hle b o hb), ho, h1, fun A hA => ⟨(h.objs A hA).1, fun b hb => ⟨((h.objs A hA).2 b hb).1, ((h.objs A hA).2 b hb).2.1, by
    cases e : H b with
    | none => rfl
    | some o => have := hle b o e; rw [((h.objs A hA).2 b hb).2.2] at this; cases this⟩⟩, h.sep⟩

set_option maxRecDepth 10000 in
theorem part_c {B : World} {H0 H : HP} {L : List SA} {w : World} {qts : Option Addr} {cts : Nat} {ts : List Term} {gp : Nat} {capp : Array Value} {p : List Int → Bool}  (hts : Terms H qts ts) (hgp : Fn Try.prog gp) (hp : ClP B H0 H gp capp p) (hn : ts.length ≤ 1048576) (hH : Hp B H0 H L w) :
    Calls Try.prog 77 [.agg [.slice qts ts.length cts].toArray, .func (.func gp) #[] capp].toArray w fun e w' => ∃ q c, e = .returned (.agg [.slice q (kept ts (fun t => !(p t.mono))).length c].toArray) ∧ Hp B H0 H (own 88 9 q (kept ts (fun t => !(p t.mono))).length c (tsC (kept ts (fun t => !(p t.mono)))) :: L) w' := by
  refine CJ.enter Try.func77 rfl 11 rfl rfl [(0, .agg [.slice qts ts.length cts].toArray), (1, .func (.func gp) #[] capp)] rfl hH ?_
  have hw0 := hH.old
  have hw1 := hH.le
  clear hH
  refine CJ.seq fun _ hK1 _ => ?_
  refine CJ.region ?_
  refine J.box rfl rfl rfl fun g2 => ?_
  refine J.box rfl rfl rfl fun g3 => ?_
  refine J.alloc ze29 rfl fun g4 => ?_
  refine J.nil ?_
  refine EJ.thenN (hK1 ?_)
  refine CJ.seq fun _ hK2 _ => ?_
  refine CJ.region ?_
  refine J.p (PR.fldA u29 rfl sz27 rfl) rfl ?_
  refine J.p (PR.load rfl (.s (.s .z)) rfl pl27) rfl ?_
  refine J.call fn132 rfl rfl fun w hH => (CloneT_c hts (by omega) hH).mono ?_
  rintro _ w ⟨qo7, co7, rfl, hH⟩
  refine ⟨_, rfl, fun a hF => J.of hF hH ?_⟩
  refine J.p (PR.makeFunc (ys := []) (zs := [_]) rfl rfl) rfl ?_
  refine J.freezeRow (.s (.s .z)) fun H3 hle3 hc3 => ?_
  have hk3 : cellO H3 (some ⟨g3, 0, none⟩) 0 = some (.func (.func gp) #[] capp) := hc3 0 _ rfl
  replace hts := hts.le hle3
  replace hp := hp.le hle3
  have hcl : ClT B H0 H3 133 #[.pointer (some ⟨g3, 0, none⟩)] (fun t => !(p t.mono)) := fun H' L w x hle hw hH => part1_c hw (cellO_le hle hk3) hgp (hp.le hle) hH
  refine J.call fn131 rfl rfl fun w hH => (DeleteFuncT_c hts.wfs fn133 hcl (by omega) (hH.front .z)).mono ?_
  rintro _ w ⟨qo9, co9, rfl, hH⟩
  refine ⟨_, rfl, fun a hF => J.of hF hH ?_⟩
  refine J.p (PR.build1 rfl (fun w => bd29_0 _ _ _ w)) rfl ?_
  refine J.storeAll rfl rfl (by first | exact bytesC_one _ | exact intsC_one _ | exact Term.c_one _ | simp [Value.oneCell']) (by simpa [*] using sz29) (by simp [*]) (.s .z) ?_
  refine J.nil ?_
  refine EJ.thenN (hK2 ?_)
  refine CJ.ret ?_
  refine EJ.ret1 rfl (Res.agg rfl (.s .z) (by simpa [*] using ag29)) fun w hH => ?_
  replace hH := hH.sublist (.cons_cons _ (.cons _ (.cons _ (List.Sublist.refl _))))
  exact ⟨_, _, rfl, hH.weaken hle3 hw0 hw1⟩

theorem part_eq (ds : List Int) (ts : List Term) (n : Int) : kept ts (fun t => !(decide (wsum ds t.mono ds.length = n))) = part ds ts n := by
  unfold kept part inDeg
  congr 1
  funext t
  simp
theorem par_bad {ds : List Int} {ts : List Term} {n : Int} (h : (if (!(isDeg ds && isForm ds ts)) then 1 else if decide (n < 0) then 2 else 0 : Int) ≠ 0) :
    parF ds ts n = [] ∧ (if (!(isDeg ds && isForm ds ts)) then 1 else if decide (n < 0) then 2 else 0 : Int) = parC ds ts n := by
  unfold parF parOk parC
  cases h1 : (isDeg ds && isForm ds ts) <;> cases h2 : decide (n < 0) <;> simp_all

set_option maxHeartbeats 2000000 in
set_option maxRecDepth 10000 in
theorem PartOfForm_c {B : World} {H0 H : HP} {L : List SA} {w : World} {qds : Option Addr} {cds : Nat} {ds : List Int} {qts : Option Addr} {cts : Nat} {ts : List Term} {n : Int}  (hds : Ints H qds ds) (hts : Terms H qts ts) (hn : ds.length ≤ 1048576) (hl : ts.length ≤ 9223372036854775807) (hH : Hp B H0 H L w) :
    Calls Try.prog 22 [.slice qds ds.length cds, .agg [.slice qts ts.length cts].toArray, .int .i64 n].toArray w fun e w' => ∃ q c, e = .returned (.tuple #[.agg [.slice q (parF ds ts n).length c].toArray, .int .i64 (parC ds ts n)]) ∧ Hp B H0 H (own 88 9 q (parF ds ts n).length c (tsC (parF ds ts n)) :: L) w' := by
  refine CJ.enter Try.func22 rfl 26 rfl rfl [(0, .slice qds ds.length cds), (1, .agg [.slice qts ts.length cts].toArray), (2, .int .i64 n)] rfl hH ?_
  have hw0 := hH.old
  have hw1 := hH.le
  clear hH
  refine CJ.seq fun _ hK1 _ => ?_
  refine CJ.region ?_
  refine J.box rfl rfl rfl fun g3 => ?_
  refine J.box rfl rfl rfl fun g4 => ?_
  refine J.box rfl rfl rfl fun g5 => ?_
  refine J.alloc ze29 rfl fun g6 => ?_
  refine J.p (PR.assign rfl) rfl ?_
  refine J.nil ?_
  refine EJ.thenN (hK1 ?_)
  refine CJ.seq fun _ hK2 _ => ?_
  refine CJ.seq fun _ hK3 _ => ?_
  refine CJ.head [[], [], [0, 1], [2], [3], [], [5]] (by kernel_rfl) ?_
  refine HJ.op (fun gh => PR.load rfl (.s (.s (.s .z))) rfl pl22) ?_
  refine HJ.op (fun gh => PR.loadAll rfl (.s (.s .z)) (by simpa [*] using ag29)) ?_
  refine HJ.call fn76 (fun gh => rfl) (fun w X hH => IsForm_c hds hts (by omega) (by omega) hH) ?_
  refine HJ.op (fun gh => PR.not rfl) ?_
  refine HJ.call fn75 (fun gh => rfl) (fun w X hH => when_c  hH) ?_
  refine HJ.op (fun gh => PR.load rfl (.s .z) rfl pl2) ?_
  refine HJ.op (fun gh => PR.lss rfl rfl) ?_
  refine HJ.close 7 3 foll0 (by kernel_rfl) rfl rfl fun gh => ?_
  refine J.conv (us' := (9, _) :: (10, _) :: (11, _) :: (12, _) :: (13, _) :: (14, _) :: (15, _) :: _) (L' := _) rfl rfl ?_
  refine J.call fn75 rfl rfl fun w hH => (when_c  hH).mono ?_
  rintro _ w ⟨rfl, hH⟩
  refine ⟨_, rfl, fun a hF => J.of hF hH ?_⟩
  refine J.litI2 u22 ze2 sz2 rfl rfl rfl fun g17 => ?_
  refine J.call fn74 rfl rfl fun w hH => hH.lend .z fun Hl1 hle1 hA1 hB1 hH => (first_c (own_ints hA1) (by simp) hH).mono ?_
  rintro _ w ⟨rfl, hH⟩
  replace hH := hB1 _ _ hH
  refine ⟨_, rfl, fun a hF => J.of hF hH ?_⟩
  refine J.nil ?_
  refine EJ.still ?_
  refine JS.op (PR.assign rfl) rfl ?_
  refine JS.nil ?_
  refine EJ.thenN (hK3 ?_)
  refine CJ.seq fun _ hK4 _ => ?_
  refine CJ.region ?_
  refine J.p (PR.move rfl) rfl ?_
  refine J.p (PR.neq rfl rfl) rfl ?_
  refine J.nil ?_
  refine EJ.thenN (hK4 ?_)
  refine CJ.condD rfl (fun h20 => ?_) (fun h20 => ?_)
  ·
    rw [codes_two] at h20 ⊢
    refine CJ.seq fun _ hK5 _ => ?_
    refine CJ.region ?_
    refine J.p (PR.buildZ bz29) rfl ?_
    refine J.p (PR.move rfl) rfl ?_
    refine J.storeAll rfl rfl (by first | exact bytesC_one _ | exact intsC_one _ | exact Term.c_one _ | simp [Value.oneCell']) (by simpa [*] using sz29) (by simp [*]) (.s .z) ?_
    refine J.p (PR.assign rfl) rfl ?_
    refine J.nil ?_
    refine EJ.thenN (hK5 ?_)
    refine CJ.ret ?_
    refine EJ.thenR ?_
    refine EJ.ret2 rfl (Res.agg rfl (.s .z) (by simpa [*] using ag29)) (Res.tmp rfl) fun w hH => ?_
    replace hH := hH.sublist (.cons _ (.cons _ (.cons _ (.cons _ (.cons _ (List.Sublist.refl _))))))
    obtain ⟨e1, e2⟩ := par_bad h20
    rw [e1, ← e2]
    exact ⟨none, 0, rfl, hH.own0 88 9⟩
  ·
    rw [codes_two] at h20
    have hq := codes_zero (Decidable.not_not.1 h20)
    have hfo := notf hq.1
    have hneg := of_decide_eq_false hq.2
    have hD := (Bool.and_eq_true_iff.1 hfo).1
    have hF4 := isForm_len (Bool.and_eq_true_iff.1 hfo).2
    refine CJ.skip ?_
    refine EJ.thenN (hK2 ?_)
    refine CJ.seq fun _ hK6 _ => ?_
    refine CJ.region ?_
    refine J.p (PR.loadAll rfl (.s (.s (.s .z))) (by simpa [*] using ag29)) rfl ?_
    refine J.p (PR.makeFunc (ys := []) (zs := [_, _]) rfl rfl) rfl ?_
    refine J.freezeRow (.s (.s (.s (.s .z)))) fun H3 hle3 hc3 => ?_
    have hk3 : cellO H3 (some ⟨g3, 0, none⟩) 0 = some (.slice qds ds.length cds) := hc3 0 _ rfl
    refine J.freezeRow (.s (.s .z)) fun H5 hle5 hc5 => ?_
    have hk5 : cellO H5 (some ⟨g5, 0, none⟩) 0 = some (.int .i64 n) := hc5 0 _ rfl
    have hds5 := (hds.le hle3).le hle5
    have hts5 := (hts.le hle3).le hle5
    have hclP : ClP B H0 H5 78 #[.pointer (some ⟨g3, 0, none⟩), .pointer (some ⟨g5, 0, none⟩)] (fun p => decide (wsum ds p ds.length = n)) := fun H' L w x hle h8 hs hH => PartOfForm1_c h8 (cellO_le hle (cellO_le hle5 hk3)) (hds5.le hle) (cellO_le hle hk5) (isDeg_len hD) (isDeg_bd hD) hs hH
    refine J.call fn77 rfl rfl fun w hH => (part_c hts5 fn78 hclP (by omega) hH).mono ?_
    rintro _ w ⟨qo25, co25, rfl, hH⟩
    refine ⟨_, rfl, fun a hF => J.of hF hH ?_⟩
    refine J.storeAll rfl rfl (by first | exact bytesC_one _ | exact intsC_one _ | exact Term.c_one _ | simp [Value.oneCell']) (by simpa [*] using sz29) (by simp [*]) (.s (.s .z)) ?_
    refine J.p (PR.assign rfl) rfl ?_
    refine J.nil ?_
    refine EJ.thenN (hK6 ?_)
    refine CJ.ret ?_
    refine EJ.ret2 rfl (Res.agg rfl (.s (.s .z)) (by simpa [*] using ag29)) (Res.tmp rfl) fun w hH => ?_
    replace hH := hH.sublist (.cons_cons _ (.cons _ (.cons _ (.cons _ (List.Sublist.refl _)))))
    rw [part_eq] at hH ⊢
    have e1 : parF ds ts n = part ds ts n := if_pos (by unfold parOk; rw [hfo, hq.2]; rfl)
    have e2 : parC ds ts n = 0 := by unfold parC; rw [if_pos hfo, if_neg (by rw [hq.2]; simp)]
    rw [e1, e2]
    exact ⟨_, _, rfl, hH.weaken (hle3.trans hle5) hw0 hw1⟩
end Go.Proofs.Ytpojpokldncglaa.G
