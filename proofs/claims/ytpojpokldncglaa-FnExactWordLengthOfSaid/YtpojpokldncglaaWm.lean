/- The walks: what each Go function does, shown from its text. No condition. -/
import Derived.Test.YtpojpokldncglaaGMake
import Derived.Test.YtpojpokldncglaaProg
import Derived.Test.YtpojpokldncglaaWa
import Derived.Test.YtpojpokldncglaaWb
import Derived.Test.YtpojpokldncglaaWc
import Derived.Test.YtpojpokldncglaaWd
import Derived.Test.YtpojpokldncglaaWe
import Derived.Test.YtpojpokldncglaaWf
import Derived.Test.YtpojpokldncglaaWg
import Derived.Test.YtpojpokldncglaaWh
import Derived.Test.YtpojpokldncglaaWi
import Derived.Test.YtpojpokldncglaaWj
import Derived.Test.YtpojpokldncglaaWk
import Derived.Test.YtpojpokldncglaaWl
set_option linter.unusedVariables false
set_option linter.unusedSimpArgs false
namespace Go.Proofs.Ytpojpokldncglaa.G
open Go Go.RowKit
namespace Wm
theorem u27 : Try.prog.underlying 27 = some (TypeDesc.slice 88) := by kernel_rfl
theorem u29 : Try.prog.underlying 29 = some (TypeDesc.struct #[{ name := "Terms", type := 27, offset := 0, embedded := false, tag := "", pkgPath := "", byteOffset := 0 }]) := by kernel_rfl
theorem u86 : Try.prog.underlying 86 = some (TypeDesc.array 8 5) := by kernel_rfl
theorem u88 : Try.prog.underlying 88 = some (TypeDesc.struct #[{ name := "Monomial", type := 86, offset := 0, embedded := false, tag := "", pkgPath := "", byteOffset := 0 }, { name := "Factor", type := 2, offset := 8, embedded := false, tag := "", pkgPath := "", byteOffset := 8 }]) := by kernel_rfl
theorem sz27 : Size Try.prog 27 1 := by unfold Size; kernel_rfl
theorem sz29 : Size Try.prog 29 1 := by unfold Size; kernel_rfl
theorem sz86 : Size Try.prog 86 8 := by unfold Size; kernel_rfl
theorem sz88 : Size Try.prog 88 9 := by unfold Size; kernel_rfl
theorem by88 : Bytes Try.prog 88 16 := by unfold Bytes; kernel_rfl
theorem bz29 : ∀ w, (Instr.build 29 #[]).run Try.prog w = .ok (.agg [.slice none 0 0].toArray) w := fun _ => by kernel_rfl
theorem ze29 : Zero Try.prog 29 [.slice none 0 0] := by unfold Zero; kernel_rfl
theorem ze88 : Zero Try.prog 88 [.int .u8 0, .int .u8 0, .int .u8 0, .int .u8 0, .int .u8 0, .int .u8 0, .int .u8 0, .int .u8 0, .int .i64 0] := by unfold Zero; kernel_rfl
theorem pl27 : Plain Try.prog 27 := ⟨_, u27, rfl⟩
theorem ag29 : Agg Try.prog 29 1 := ⟨_, u29, rfl, by kernel_rfl⟩
theorem ag86 : Agg Try.prog 86 8 := ⟨_, u86, rfl, by kernel_rfl⟩
theorem ag88 : Agg Try.prog 88 9 := ⟨_, u88, rfl, by kernel_rfl⟩
theorem fn71 : Fn Try.prog 71 := ⟨_, Try.func71, by kernel_rfl, rfl⟩
theorem fn72 : Fn Try.prog 72 := ⟨_, Try.func72, by kernel_rfl, rfl⟩
theorem foll0 : Try.prog.follows .mixedOrders = true := by kernel_rfl
end Wm
open Wm

def inDeg (ds : List Int) (n : Int) (t : Term) : Bool := decide (wsum ds t.mono ds.length = n)
def partK (ds : List Int) (ts : List Term) (n : Int) (k : Nat) : List Term := (ts.take k).filter (inDeg ds n)
def part (ds : List Int) (ts : List Term) (n : Int) : List Term := ts.filter (inDeg ds n)
theorem take_tm {ts : List Term} {k : Nat} (hk : k < ts.length) : ts.take (k + 1) = ts.take k ++ [tm ts k] := by
  rw [List.take_succ_eq_append_getElem hk]
  simp [tm, List.getD_eq_getElem?_getD, List.getElem?_eq_getElem hk]
theorem partK_yes {ds : List Int} {ts : List Term} {n : Int} {k : Nat} (hk : k < ts.length) (h : wsum ds (tm ts k).mono ds.length = n) : partK ds ts n (k + 1) = partK ds ts n k ++ [tm ts k] := by
  unfold partK
  rw [take_tm hk, List.filter_append]
  congr 1
  simp [inDeg, h]
theorem partK_no {ds : List Int} {ts : List Term} {n : Int} {k : Nat} (hk : k < ts.length) (h : ¬ wsum ds (tm ts k).mono ds.length = n) : partK ds ts n (k + 1) = partK ds ts n k := by
  unfold partK
  rw [take_tm hk, List.filter_append]
  simp [inDeg, h]
theorem partK_end (ds : List Int) (ts : List Term) (n : Int) : partK ds ts n ts.length = part ds ts n := by simp [partK, part]
theorem partK_len (ds : List Int) (ts : List Term) (n : Int) (k : Nat) : (partK ds ts n k).length ≤ k := by
  unfold partK
  have h1 := List.length_filter_le (inDeg ds n) (ts.take k)
  have h2 := List.length_take_le k ts
  omega
theorem partK_wf {ds : List Int} {ts : List Term} {n : Int} {k : Nat} (h : Wfs ts) : Wfs (partK ds ts n k) := fun t ht => h t (List.mem_of_mem_take (List.mem_filter.1 ht).1)
theorem isForm_len {ds : List Int} {ts : List Term} (h : isForm ds ts = true) : ts.length ≤ 400 := by
  unfold isForm at h
  exact of_decide_eq_true (Bool.and_eq_true_iff.1 h).1
def parOk (ds : List Int) (ts : List Term) (n : Int) : Bool := (isDeg ds && isForm ds ts) && !decide (n < 0)
def parF (ds : List Int) (ts : List Term) (n : Int) : List Term := if parOk ds ts n then part ds ts n else []
def parC (ds : List Int) (ts : List Term) (n : Int) : Int := if (isDeg ds && isForm ds ts) then (if decide (n < 0) then 2 else 0) else 1
theorem parF_wf {ds : List Int} {ts : List Term} {n : Int} (h : Wfs ts) : Wfs (parF ds ts n) := by
  unfold parF
  split
  · exact fun t ht => h t (List.mem_filter.1 ht).1
  · exact Wfs.nil
theorem parF_len (ds : List Int) (ts : List Term) (n : Int) : (parF ds ts n).length ≤ ts.length := by
  unfold parF part
  split
  · exact List.length_filter_le _ _
  · simp

set_option maxHeartbeats 2000000 in
set_option maxRecDepth 10000 in
theorem sPartOfForm_c {B : World} {H0 H : HP} {L : List SA} {w : World} {qds : Option Addr} {cds : Nat} {ds : List Int} {qts : Option Addr} {cts : Nat} {ts : List Term} {n : Int}  (hds : Ints H qds ds) (hts : Terms H qts ts) (hn : ds.length ≤ 1048576) (hl : ts.length ≤ 9223372036854775807) (hH : Hp B H0 H L w) :
    Calls Try.prog 19 [.slice qds ds.length cds, .agg [.slice qts ts.length cts].toArray, .int .i64 n].toArray w fun e w' => ∃ q c, e = .returned (.tuple #[.agg [.slice q (parF ds ts n).length c].toArray, .int .i64 (parC ds ts n)]) ∧ Hp B H0 H (own 88 9 q (parF ds ts n).length c (tsC (parF ds ts n)) :: L) w' := by
  refine CJ.enter Try.func19 rfl 49 rfl rfl [(0, .slice qds ds.length cds), (1, .agg [.slice qts ts.length cts].toArray), (2, .int .i64 n)] rfl hH ?_
  clear hH
  refine CJ.seq fun _ hK1 _ => ?_
  refine CJ.region ?_
  refine J.box rfl rfl rfl fun g4 => ?_
  refine J.alloc ze29 rfl fun g6 => ?_
  refine J.p (PR.assign rfl) rfl ?_
  refine J.nil ?_
  refine EJ.thenN (hK1 ?_)
  refine CJ.seq fun _ hK2 _ => ?_
  refine CJ.block ?_
  refine CJ.seq fun _ hK3 _ => ?_
  refine CJ.region ?_
  refine J.p (PR.move rfl) rfl ?_
  refine J.p (PR.loadAll rfl (.s .z) (by simpa [*] using ag29)) rfl ?_
  refine J.call fn71 rfl rfl fun w hH => (sIsForm_c hds hts (by omega) (by omega) hH).mono ?_
  rintro _ w ⟨rfl, hH⟩
  refine ⟨_, rfl, fun a hF => J.of hF hH ?_⟩
  refine J.p (PR.not rfl) rfl ?_
  refine J.p (PR.assign rfl) rfl ?_
  refine J.nil ?_
  refine EJ.thenN (hK3 ?_)
  refine CJ.cond rfl (fun h10 => ?_) (fun h10 => ?_)
  ·
    refine CJ.seq fun _ hK4 _ => ?_
    refine CJ.region ?_
    refine J.p (PR.buildZ bz29) rfl ?_
    refine J.storeAll rfl rfl (by first | exact bytesC_one _ | exact intsC_one _ | exact Term.c_one _ | simp [Value.oneCell']) (by simpa [*] using sz29) (by simp [*]) At.z ?_
    refine J.p (PR.assign rfl) rfl ?_
    refine J.nil ?_
    refine EJ.thenN (hK4 ?_)
    refine CJ.ret ?_
    refine EJ.inR ?_
    refine EJ.thenR ?_
    refine EJ.ret2 rfl (Res.agg rfl At.z (by simpa [*] using ag29)) (Res.tmp rfl) fun w hH => ?_
    replace hH := hH.sublist (.cons _ (.cons _ (List.Sublist.refl _)))
    have hx := nott h10
    have e1 : parF ds ts n = [] := if_neg (by unfold parOk; rw [hx]; simp)
    have e2 : parC ds ts n = 1 := if_neg (by rw [hx]; simp)
    rw [e1, e2]
    exact ⟨none, 0, rfl, hH.own0 88 9⟩
  ·
    have hfo := notf h10
    have hD := (Bool.and_eq_true_iff.1 hfo).1
    have hF4 := isForm_len (Bool.and_eq_true_iff.1 hfo).2
    refine CJ.seq fun _ hK5 _ => ?_
    refine CJ.region ?_
    refine J.p (PR.move rfl) rfl ?_
    refine J.p (PR.lss rfl rfl) rfl ?_
    refine J.p (PR.assign rfl) rfl ?_
    refine J.nil ?_
    refine EJ.thenN (hK5 ?_)
    refine CJ.condD rfl (fun h16 => ?_) (fun h16 => ?_)
    ·
      have hneg := h16
      refine CJ.seq fun _ hK6 _ => ?_
      refine CJ.region ?_
      refine J.p (PR.buildZ bz29) rfl ?_
      refine J.storeAll rfl rfl (by first | exact bytesC_one _ | exact intsC_one _ | exact Term.c_one _ | simp [Value.oneCell']) (by simpa [*] using sz29) (by simp [*]) At.z ?_
      refine J.p (PR.assign rfl) rfl ?_
      refine J.nil ?_
      refine EJ.thenN (hK6 ?_)
      refine CJ.ret ?_
      refine EJ.inR ?_
      refine EJ.thenR ?_
      refine EJ.ret2 rfl (Res.agg rfl At.z (by simpa [*] using ag29)) (Res.tmp rfl) fun w hH => ?_
      replace hH := hH.sublist (.cons _ (.cons _ (List.Sublist.refl _)))
      have e1 : parF ds ts n = [] := if_neg (by unfold parOk; rw [decide_eq_true hneg]; simp)
      have e2 : parC ds ts n = 2 := by unfold parC; rw [if_pos hfo, if_pos (decide_eq_true hneg)]
      rw [e1, e2]
      exact ⟨none, 0, rfl, hH.own0 88 9⟩
    ·
      refine CJ.skip ?_
      refine EJ.inN ?_
      refine EJ.thenN (hK2 ?_)
      refine CJ.seq fun _ hK7 _ => ?_
      refine CJ.region ?_
      refine J.own0 88 9 ?_
      refine J.p (PR.buildZ bz29) rfl ?_
      refine J.alloc ze29 rfl fun g8 => ?_
      refine J.storeAll rfl rfl (by first | exact bytesC_one _ | exact intsC_one _ | exact Term.c_one _ | simp [Value.oneCell']) (by simpa [*] using sz29) (by simp [*]) At.z ?_
      refine J.nil ?_
      refine EJ.thenN (hK7 ?_)
      refine CJ.seq fun _ hK8 _ => ?_
      refine CJ.seq fun _ hK9 _ => ?_
      refine CJ.region ?_
      refine J.p (PR.assign rfl) rfl ?_
      refine J.nil ?_
      refine EJ.thenN (hK9 ?_)
      refine CJ.block ?_
      refine CJ.loopU (σ := Option Addr × Nat × Nat) (fun ⟨q, c, k⟩ => [(9, .int .i64 (k : Int))]) (fun ⟨q, c, k⟩ => H) (fun ⟨q, c, k⟩ => obj g8 (.cells [.slice q (partK ds ts n k).length c].toArray 29 (0, 0)) :: own 88 9 q (partK ds ts n k).length c (tsC (partK ds ts n k)) :: obj g6 (.cells [.slice none 0 0].toArray 29 (0, 0)) :: obj g4 (.cells [.slice qts ts.length cts].toArray 29 (0, 0)) :: L) (fun ⟨q, c, k⟩ => k ≤ ts.length) (fun ⟨q, c, k⟩ => ts.length - k) (none, 0, 0) (by show 0 ≤ ts.length; omega) ⟨rfl, trivial⟩ rfl rfl ?_
      rintro ⟨q, c, k⟩ hI _ hAg0
      have hk := hI
      have hpl := partK_len ds ts n k
      refine CJ.seq fun _ hK10 _ => ?_
      refine CJ.seq fun _ hK11 _ => ?_
      refine CJ.region ?_
      refine J.p (PR.move rfl) rfl ?_
      refine J.p (PR.fldA u29 rfl sz27 rfl) rfl ?_
      refine J.p (PR.load rfl (.s (.s (.s .z))) rfl pl27) rfl ?_
      refine J.p (PR.lenSlice u27 rfl rfl) rfl ?_
      refine J.p (PR.lss rfl rfl) rfl ?_
      refine J.nil ?_
      refine EJ.thenN (hK11 ?_)
      refine CJ.condD rfl (fun hc25 => ?_) (fun hc25 => ?_)
      ·
        refine CJ.skip ?_
        refine EJ.thenN (hK10 ?_)
        refine CJ.seq fun _ hK12 _ => ?_
        refine CJ.block ?_
        refine CJ.seq fun _ hK13 _ => ?_
        refine CJ.region ?_
        refine J.p (PR.move rfl) rfl ?_
        refine J.p (PR.fldA u29 rfl sz27 rfl) rfl ?_
        refine J.p (PR.load rfl (.s (.s (.s .z))) rfl pl27) rfl ?_
        refine J.p (PR.move rfl) rfl ?_
        refine J.p (PR.idx u27 sz88 rfl rfl rfl (by omega) hts.sm) rfl ?_
        refine J.p (PR.fldP u88 rfl sz86 rfl (hts.sm (i := k) (by omega))) rfl ?_
        refine J.p (PR.loadHagg rfl (hts.mono (by omega)) (hts.sm (i := k) (by omega)) (by rw [bytesC_length, (hts.wf _ (by omega)).mono.len]; exact ag86)) rfl ?_
        refine J.call fn72 rfl rfl fun w hH => (l01Weight_c hds (hts.wf k (by omega)).mono (isDeg_len hD) (isDeg_bd hD) hH).mono ?_
        rintro _ w ⟨rfl, hH⟩
        refine ⟨_, rfl, fun a hF => J.of hF hH ?_⟩
        refine J.p (PR.move rfl) rfl ?_
        refine J.p (PR.eql rfl rfl) rfl ?_
        refine J.nil ?_
        refine EJ.thenN (hK13 ?_)
        refine CJ.condD rfl (fun h37 => ?_) (fun h37 => ?_)
        ·
          refine CJ.head [[], [0], [], [2], [], [3, 4], [5], [6]] (by kernel_rfl) ?_
          refine HJ.op (fun gh => PR.fldA u29 rfl sz27 rfl) ?_
          refine HJ.op (fun gh => PR.load rfl At.z rfl pl27) ?_
          refine HJ.op (fun gh => PR.fldA u29 rfl sz27 rfl) ?_
          refine HJ.op (fun gh => PR.load rfl (.s (.s (.s .z))) rfl pl27) ?_
          refine HJ.op (fun gh => PR.move rfl) ?_
          refine HJ.op (fun gh => PR.idx u27 sz88 rfl rfl rfl (by omega) hts.sm) ?_
          refine HJ.op (fun gh => PR.loadHagg rfl (hts.cell _ (by omega)) (hts.sm (i := k) (by omega)) (by rw [Term.c_length (hts.wf _ (by omega))]; exact ag88)) ?_
          refine HJ.mk (fun gh => MK.lit1T u27 ze88 sz88 (hts.wf k (by omega)) rfl) ?_
          refine HJ.close 8 3 foll0 (by kernel_rfl) rfl rfl fun gh => ?_
          refine J.conv (us' := (38, _) :: (39, _) :: (40, _) :: (41, _) :: (42, _) :: (43, _) :: (44, _) :: (45, _) :: _) (L' := _ :: _) rfl rfl ?_
          refine J.appendOT u27 ze88 sz88 by88 rfl rfl (by simp only [List.length_cons, List.length_nil]; omega) .z (.s .z) (fun _ _ => (.s .z)) rfl fun qo46 co46 => ?_
          refine J.p (PR.fldA u29 rfl sz27 rfl) rfl ?_
          refine J.store rfl rfl rfl rfl sz27 (by simp [*]) (.s .z) ?_
          refine J.nil ?_
          refine EJ.still ?_
          refine JS.nil ?_
          refine EJ.inN ?_
          refine EJ.thenN (hK12 ?_)
          refine CJ.region ?_
          refine J.p (PR.move rfl) rfl ?_
          refine J.p (PR.add rfl rfl (by first | exact nw _ (by omega) | rfl)) rfl ?_
          refine J.p (PR.assign rfl) rfl ?_
          refine J.nil ?_
          refine EJ.thenN ?_
          refine EJ.drop .z ?_
          exact hAg0 (qo46, co46, k + 1) (by show k + 1 ≤ ts.length; omega) (by show ts.length - (k + 1) < ts.length - k; omega) 29 rfl rfl ⟨rfl, trivial⟩ rfl (by dsimp only; rw [partK_yes (by omega) h37]; rfl)
        ·
          refine CJ.skip ?_
          refine EJ.inN ?_
          refine EJ.thenN (hK12 ?_)
          refine CJ.region ?_
          refine J.p (PR.move rfl) rfl ?_
          refine J.p (PR.add rfl rfl (by first | exact nw _ (by omega) | rfl)) rfl ?_
          refine J.p (PR.assign rfl) rfl ?_
          refine J.nil ?_
          refine EJ.thenN ?_
          exact hAg0 (q, c, k + 1) (by show k + 1 ≤ ts.length; omega) (by show ts.length - (k + 1) < ts.length - k; omega) 19 rfl rfl ⟨rfl, trivial⟩ rfl (by dsimp only; rw [partK_no (by omega) h37])
      ·
        refine CJ.exit ?_
        refine EJ.thenE ?_
        refine EJ.thenE ?_
        refine EJ.inE ?_
        refine EJ.thenN (hK8 ?_)
        refine CJ.seq fun _ hK14 _ => ?_
        refine CJ.region ?_
        refine J.p (PR.loadAll rfl At.z (by simpa [*] using ag29)) rfl ?_
        refine J.storeAll rfl rfl (by first | exact bytesC_one _ | exact intsC_one _ | exact Term.c_one _ | simp [Value.oneCell']) (by simpa [*] using sz29) (by simp [*]) (.s (.s .z)) ?_
        refine J.p (PR.assign rfl) rfl ?_
        refine J.nil ?_
        refine EJ.thenN (hK14 ?_)
        refine CJ.ret ?_
        refine EJ.ret2 rfl (Res.agg rfl (.s (.s .z)) (by simpa [*] using ag29)) (Res.tmp rfl) fun w hH => ?_
        replace hH := hH.sublist (.cons _ (.cons_cons _ (.cons _ (.cons _ (List.Sublist.refl _)))))
        obtain rfl : k = ts.length := by omega
        rw [partK_end] at hH ⊢
        have e1 : parF ds ts n = part ds ts n := if_pos (by unfold parOk; rw [hfo, decide_eq_false h16]; rfl)
        have e2 : parC ds ts n = 0 := by unfold parC; rw [if_pos hfo, if_neg (by rw [decide_eq_false h16]; simp)]
        rw [e1, e2]
        exact ⟨_, _, rfl, hH⟩
end Go.Proofs.Ytpojpokldncglaa.G
