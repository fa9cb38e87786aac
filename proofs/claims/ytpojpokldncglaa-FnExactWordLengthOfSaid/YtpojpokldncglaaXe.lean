/- The walks of products of powers and of sums. No condition. -/
import Derived.Test.YtpojpokldncglaaGMap
import Derived.Test.YtpojpokldncglaaProg
import Derived.Test.YtpojpokldncglaaWa
import Derived.Test.YtpojpokldncglaaWb
import Derived.Test.YtpojpokldncglaaWc
import Derived.Test.YtpojpokldncglaaWd
import Derived.Test.YtpojpokldncglaaWe
import Derived.Test.YtpojpokldncglaaWf
import Derived.Test.YtpojpokldncglaaWg
import Derived.Test.YtpojpokldncglaaWh
import Derived.Test.YtpojpokldncglaaWi
import Derived.Test.YtpojpokldncglaaWj
import Derived.Test.YtpojpokldncglaaWk
import Derived.Test.YtpojpokldncglaaWl
import Derived.Test.YtpojpokldncglaaWm
import Derived.Test.YtpojpokldncglaaWn
import Derived.Test.YtpojpokldncglaaWo
import Derived.Test.YtpojpokldncglaaWp
import Derived.Test.YtpojpokldncglaaXa
import Derived.Test.YtpojpokldncglaaXb
import Derived.DeepKeys4
import Derived.Test.YtpojpokldncglaaXc
import Derived.Test.YtpojpokldncglaaXd
set_option linter.unusedVariables false
set_option linter.unusedSimpArgs false
namespace Go.Proofs.Ytpojpokldncglaa.G
open Go Go.RowKit
namespace Xe
theorem u2 : Try.prog.underlying 2 = some (TypeDesc.int .i64) := by kernel_rfl
theorem u22 : Try.prog.underlying 22 = some (TypeDesc.slice 2) := by kernel_rfl
theorem u3 : Try.prog.underlying 3 = some (TypeDesc.int .i64) := by kernel_rfl
theorem u94 : Try.prog.underlying 94 = some (TypeDesc.array 8 3) := by kernel_rfl
theorem sz2 : Size Try.prog 2 1 := by unfold Size; kernel_rfl
theorem sz3 : Size Try.prog 3 1 := by unfold Size; kernel_rfl
theorem sz94 : Size Try.prog 94 8 := by unfold Size; kernel_rfl
theorem ze94 : Zero Try.prog 94 [.int .i64 0, .int .i64 0, .int .i64 0, .int .i64 0, .int .i64 0, .int .i64 0, .int .i64 0, .int .i64 0] := by unfold Zero; kernel_rfl
theorem bz94 : ∀ w, (Instr.build 94 #[]).run Try.prog w = .ok (.agg [.int .i64 0, .int .i64 0, .int .i64 0, .int .i64 0, .int .i64 0, .int .i64 0, .int .i64 0, .int .i64 0].toArray) w := fun _ => by kernel_rfl
theorem pl2 : Plain Try.prog 2 := ⟨_, u2, rfl⟩
theorem pl3 : Plain Try.prog 3 := ⟨_, u3, rfl⟩
theorem ag94 : Agg Try.prog 94 8 := ⟨_, u94, rfl, by kernel_rfl⟩
theorem foll0 : Try.prog.follows .mixedOrders = true := by kernel_rfl
end Xe
open Xe

def prodP (ds p q : Pw) : Pw := if hits ds p q then List.replicate 8 0 else addp p q
def addTo (p q : Pw) (k : Nat) : Pw := (List.range 8).map fun i => if i < k then p.getD i 0 + q.getD i 0 else p.getD i 0
@[simp] theorem addTo_len (p q : Pw) (k : Nat) : (addTo p q k).length = 8 := by simp [addTo]
theorem addTo_get {p q : Pw} {k i : Nat} (h : i < 8) : (addTo p q k).getD i 0 = if i < k then p.getD i 0 + q.getD i 0 else p.getD i 0 := by
  simp [addTo, List.getD_eq_getElem?_getD, h]
theorem addTo_zero {p q : Pw} (hp : p.length = 8) : addTo p q 0 = p := list_eq_of (by simp [hp]) fun j hj => by
  rw [addTo_get (by simpa using hj), if_neg (by omega)]
theorem addTo_end (p q : Pw) : addTo p q 8 = addp p q := list_eq_of (by simp) fun j hj => by
  have hj8 : j < 8 := by simpa using hj
  rw [addTo_get hj8, if_pos hj8]
  simp [addp, List.getD_eq_getElem?_getD, hj8]
theorem addTo_set {p q : Pw} {k : Nat} (hk : k < 8) : (addTo p q k).set k (p.getD k 0 + q.getD k 0) = addTo p q (k + 1) := list_eq_of (by simp) fun j hj => by
  have hj8 : j < 8 := by simpa using hj
  rw [addTo_get hj8]
  by_cases e : k = j
  · subst e
    simp [List.getD_eq_getElem?_getD, hk]
  · rw [List.getD_eq_getElem?_getD, List.getElem?_set_ne e, ← List.getD_eq_getElem?_getD, addTo_get hj8]
    by_cases h : j < k
    · rw [if_pos h, if_pos (by omega)]
    · rw [if_neg h, if_neg (by omega)]
theorem sgn_hit {ds p q : Pw} {i : Nat} (hi : i < ds.length) (h : hitAt ds p q i = true) : sgn ds p q = 0 ∧ prodP ds p q = List.replicate 8 0 := by
  have := hits_yes hi h
  unfold sgn prodP
  rw [this]
  exact ⟨rfl, rfl⟩
theorem sgn_free {ds p q : Pw} (h : ∀ i, i < ds.length → hitAt ds p q i = false) : sgn ds p q = (if (oddTo ds p q ds.length).tmod 2 = 1 then -1 else 1) ∧ prodP ds p q = addp p q := by
  have := hits_no h
  unfold sgn prodP
  rw [this]
  exact ⟨rfl, rfl⟩
theorem odd_skip {ds p q : Pw} {k : Nat} (h : ¬ ((ds.getD k 0).tmod 2 ≠ 0 ∧ 0 < q.getD k 0)) : oddTo ds p q k = oddTo ds p q (k + 1) := by
  simp only [oddTo]
  rw [if_neg h]
  omega
theorem odd_take {ds p q : Pw} {k m : Nat} (h : (ds.getD k 0).tmod 2 ≠ 0 ∧ 0 < q.getD k 0) (hm : m = ds.length - (k + 1)) : oddTo ds p q k + oin ds p k m = oddTo ds p q (k + 1) := by
  subst hm
  simp only [oddTo]
  rw [if_pos h]
theorem hit_even {ds p q : Pw} {k : Nat} (h : (ds.getD k 0).tmod 2 = 0) : hitAt ds p q k = false := by unfold hitAt; rw [decide_eq_false (p := (ds.getD k 0).tmod 2 ≠ 0) (fun h' => h' h)]; rfl
theorem hit_p {ds p q : Pw} {k : Nat} (h : ¬ p.getD k 0 > 0) : hitAt ds p q k = false := by unfold hitAt; rw [decide_eq_false (by omega : ¬ 0 < p.getD k 0)]; simp
theorem hit_q {ds p q : Pw} {k : Nat} (h : ¬ q.getD k 0 > 0) : hitAt ds p q k = false := by unfold hitAt; rw [decide_eq_false (by omega : ¬ 0 < q.getD k 0)]; simp
theorem hit_yes {ds p q : Pw} {k : Nat} (h1 : ¬ (ds.getD k 0).tmod 2 = 0) (h2 : p.getD k 0 > 0) (h3 : q.getD k 0 > 0) : hitAt ds p q k = true := by
  unfold hitAt
  rw [decide_eq_true h1, decide_eq_true (by omega : 0 < p.getD k 0), decide_eq_true (by omega : 0 < q.getD k 0)]
  rfl

set_option maxHeartbeats 4000000 in
set_option maxRecDepth 10000 in
theorem timesP_c {B : World} {H0 H : HP} {L : List SA} {w : World} {Mp : Int} {p : List Int} {qds : Option Addr} {cds : Nat} {ds : List Int} {Mq : Int} {q : List Int}  (hp : Pok Mp p) (hds : Ints H qds ds) (hq : Pok Mq q) (hn : ds.length ≤ 8) (hd : ∀ j, 0 ≤ ds.getD j 0 ∧ ds.getD j 0 ≤ 12) (hM : Mp ≤ 1000000 ∧ Mq ≤ 1000000) (hH : Hp B H0 H L w) :
    Calls Try.prog 174 [.agg (intsC p).toArray, .slice qds ds.length cds, .agg (intsC q).toArray].toArray w fun e w' => e = .returned (.tuple #[.agg (intsC (prodP ds p q)).toArray, .int .i64 (sgn ds p q)]) ∧ Hp B H0 H L w' := by
  refine CJ.enter Try.func174 rfl 75 rfl rfl [(0, .agg (intsC p).toArray), (1, .slice qds ds.length cds), (2, .agg (intsC q).toArray)] rfl hH ?_
  clear hH
  have hp8 := hp.len
  have hq8 := hq.len
  refine CJ.seq fun _ hK1 _ => ?_
  refine CJ.region ?_
  refine J.box rfl rfl rfl fun g3 => ?_
  refine J.box rfl rfl rfl fun g5 => ?_
  refine J.alloc ze94 rfl fun g6 => ?_
  refine J.p (PR.assign rfl) rfl ?_
  refine J.nil ?_
  refine EJ.thenN (hK1 ?_)
  refine CJ.seq fun _ hK2 _ => ?_
  refine CJ.region ?_
  refine J.p (PR.assign rfl) rfl ?_
  refine J.nil ?_
  refine EJ.thenN (hK2 ?_)
  refine CJ.seq fun _ hK3 _ => ?_
  refine CJ.seq fun _ hK4 _ => ?_
  refine CJ.region ?_
  refine J.p (PR.move rfl) rfl ?_
  refine J.p (PR.lenSlice u22 rfl rfl) rfl ?_
  refine J.p (PR.move rfl) rfl ?_
  refine J.nil ?_
  refine EJ.thenN (hK4 ?_)
  refine CJ.block ?_
  refine CJ.loopU (σ := Nat) (fun (k : Nat) => [(15, .int .i64 (k : Int)), (8, .int .i64 (oddTo ds p q k))]) (fun (k : Nat) => H) (fun (k : Nat) => obj g6 (.cells (intsC (List.replicate 8 0)).toArray 94 (0, 0)) :: obj g5 (.cells (intsC q).toArray 94 (0, 0)) :: obj g3 (.cells (intsC p).toArray 94 (0, 0)) :: L) (fun (k : Nat) => k ≤ ds.length ∧ ∀ j, j < k → hitAt ds p q j = false) (fun (k : Nat) => ds.length - k) 0 ⟨by omega, fun j hj => by omega⟩ ⟨rfl, ⟨rfl, trivial⟩⟩ rfl rfl ?_
  rintro k ⟨hkI, hhI⟩ _ hAg0
  have hk := hkI
  have ob := oddTo_bd hn hd hp.bd (q := q) k
  have kM : ((k : Nat) : Int) * (8 * Mp) ≤ 8 * (8 * 1000000) := Int.mul_le_mul (by omega) (by omega) (by have := hp.bd 0; omega) (by omega)
  have hb := hd k
  refine CJ.seq fun _ hK5 _ => ?_
  refine CJ.region ?_
  refine J.p (PR.lss rfl rfl) rfl ?_
  refine J.nil ?_
  refine EJ.thenN (hK5 ?_)
  refine CJ.seq fun _ hK6 _ => ?_
  refine CJ.condD rfl (fun hc16 => ?_) (fun hc16 => ?_)
  ·
    refine CJ.skip ?_
    refine EJ.thenN (hK6 ?_)
    refine CJ.seq fun _ hK7 _ => ?_
    refine CJ.block ?_
    refine CJ.seq fun _ hK8 _ => ?_
    refine CJ.region ?_
    refine J.p (PR.move rfl) rfl ?_
    refine J.p (PR.idx1 u22 sz2 rfl rfl rfl (by omega) hds.sm) rfl ?_
    refine J.p (PR.loadH rfl (hds _ (by omega)) pl2) rfl ?_
    refine J.p (PR.assign rfl) rfl ?_
    refine J.p (PR.assign rfl) rfl ?_
    refine J.nil ?_
    refine EJ.thenN (hK8 ?_)
    refine CJ.seq fun _ hK9 _ => ?_
    refine CJ.seq fun _ hK10 _ => ?_
    refine CJ.region ?_
    refine J.p (PR.move rfl) rfl ?_
    refine J.p (PR.rem rfl rfl (by decide) rfl) rfl ?_
    refine J.p (PR.eql rfl rfl) rfl ?_
    refine J.nil ?_
    refine EJ.thenN (hK10 ?_)
    refine CJ.condD rfl (fun h22 => ?_) (fun h22 => ?_)
    ·
      refine CJ.exit ?_
      refine EJ.thenE ?_
      refine EJ.inE ?_
      refine EJ.thenN (hK7 ?_)
      refine CJ.region ?_
      refine J.p (PR.add rfl rfl (by first | exact nw _ (by omega) | rfl)) rfl ?_
      refine J.p (PR.move rfl) rfl ?_
      refine J.nil ?_
      refine EJ.thenN ?_
      exact hAg0 (k + 1) ⟨by omega, upto hhI (hit_even h22)⟩ (by omega) 13 rfl rfl ⟨rfl, ⟨(vi (odd_skip (fun h => h.1 h22))), trivial⟩⟩ rfl rfl
    ·
      refine CJ.skip ?_
      refine EJ.thenN (hK9 ?_)
      refine CJ.seq fun _ hK11 _ => ?_
      refine CJ.seq fun _ hK12 _ => ?_
      refine CJ.region ?_
      refine J.p (PR.move rfl) rfl ?_
      refine J.p (PR.idxA1 u94 sz3 rfl rfl rfl (by omega)) rfl ?_
      refine J.p (PR.load rfl (.s (.s .z)) (by first | exact bytesC_get (by simp [*]; omega) | exact intsC_get (by simp [*]; omega)) pl3) rfl ?_
      refine J.p (PR.gtr rfl rfl) rfl ?_
      refine J.p (PR.move rfl) rfl ?_
      refine J.splitB (jd := 27) rfl (fun h27 => ?_) (fun h27 => ?_)
      ·
        try have h27p := of_decide_eq_true h27
        refine J.gy (PR.move rfl) rfl rfl rfl h27 ?_
        refine J.gy (PR.idxA1 u94 sz3 rfl rfl rfl (by omega)) rfl rfl rfl h27 ?_
        refine J.gy (PR.load rfl (.s .z) (by first | exact bytesC_get (by simp [*]; omega) | exact intsC_get (by simp [*]; omega)) pl3) rfl rfl rfl h27 ?_
        refine J.gy (PR.gtr rfl rfl) rfl rfl rfl h27 ?_
        refine J.p (PR.pickT rfl h27 rfl) rfl ?_
        refine J.nil ?_
        refine EJ.thenN (hK12 ?_)
        refine CJ.condD rfl (fun h32 => ?_) (fun h32 => ?_)
        ·
          refine CJ.seq fun _ hK13 _ => ?_
          refine CJ.region ?_
          refine J.p (PR.buildZ bz94) rfl ?_
          refine J.storeAll rfl rfl (by first | exact bytesC_one _ | exact intsC_one _ | exact Term.c_one _ | simp [Value.oneCell']) (by simpa [*] using sz94) (by simp [*]) At.z ?_
          refine J.p (PR.assign rfl) rfl ?_
          refine J.nil ?_
          refine EJ.thenN (hK13 ?_)
          refine CJ.ret ?_
          refine EJ.thenR ?_
          refine EJ.inR ?_
          refine EJ.thenR ?_
          refine EJ.thenR ?_
          refine EJ.inR ?_
          refine EJ.thenR ?_
          refine EJ.ret2 rfl (Res.agg rfl At.z (by simpa [*] using ag94)) (Res.tmp rfl) fun w hH => ?_
          replace hH := hH.tail
          replace hH := hH.tail
          replace hH := hH.tail
          obtain ⟨e1, e2⟩ := sgn_hit (by omega) (hit_yes h22 h27p h32)
          rw [e1, e2]
          exact ⟨rfl, hH⟩
        ·
          refine CJ.skip ?_
          refine EJ.thenN (hK11 ?_)
          refine CJ.seq fun _ hK14 _ => ?_
          refine CJ.region ?_
          refine J.p (PR.move rfl) rfl ?_
          refine J.p (PR.idxA1 u94 sz3 rfl rfl rfl (by omega)) rfl ?_
          refine J.p (PR.load rfl (.s .z) (by first | exact bytesC_get (by simp [*]; omega) | exact intsC_get (by simp [*]; omega)) pl3) rfl ?_
          refine J.p (PR.gtr rfl rfl) rfl ?_
          refine J.nil ?_
          refine EJ.thenN (hK14 ?_)
          refine CJ.condD rfl (fun h37 => ?_) (fun h37 => ?_)
          ·
            refine CJ.seq fun _ hK15 _ => ?_
            refine CJ.region ?_
            refine J.p (PR.move rfl) rfl ?_
            refine J.p (PR.add rfl rfl (by first | exact nw _ (by omega) | rfl)) rfl ?_
            refine J.p (PR.assign rfl) rfl ?_
            refine J.nil ?_
            refine EJ.thenN (hK15 ?_)
            refine CJ.block ?_
            refine CJ.loopU (σ := Nat) (fun (m : Nat) => [(11, .int .i64 ((k + 1 + m : Nat) : Int)), (8, .int .i64 (oddTo ds p q k + oin ds p k m))]) (fun (m : Nat) => H) (fun (m : Nat) => obj g6 (.cells (intsC (List.replicate 8 0)).toArray 94 (0, 0)) :: obj g5 (.cells (intsC q).toArray 94 (0, 0)) :: obj g3 (.cells (intsC p).toArray 94 (0, 0)) :: L) (fun (m : Nat) => k + 1 + m ≤ ds.length) (fun (m : Nat) => ds.length - (k + 1 + m)) 0 (by omega) ⟨(vi (by omega)), ⟨(vi (by simp [oin])), trivial⟩⟩ rfl rfl ?_
            rintro m hI _ hAg1
            have hm9 := hI
            have ob := oin_bd hd hp.bd k m
            have o2 := deg2 hd (k + 1 + m)
            have pb := hp.bd (k + 1 + m)
            have tp : 0 ≤ (ds.getD (k + 1 + m) 0).tmod 2 * p.getD (k + 1 + m) 0 ∧ (ds.getD (k + 1 + m) 0).tmod 2 * p.getD (k + 1 + m) 0 ≤ 1000000 := by rcases o2 with h | h <;> rw [h] <;> first | (rw [Int.zero_mul]; omega) | (rw [Int.one_mul]; omega)
            have mM : ((m : Nat) : Int) * Mp ≤ 8 * 1000000 := Int.mul_le_mul (by omega) (by omega) (by have := hp.bd 0; omega) (by omega)
            refine CJ.seq fun _ hK16 _ => ?_
            refine CJ.seq fun _ hK17 _ => ?_
            refine CJ.region ?_
            refine J.p (PR.move rfl) rfl ?_
            refine J.p (PR.move rfl) rfl ?_
            refine J.p (PR.lenSlice u22 rfl rfl) rfl ?_
            refine J.p (PR.lss rfl rfl) rfl ?_
            refine J.nil ?_
            refine EJ.thenN (hK17 ?_)
            refine CJ.condD rfl (fun hc43 => ?_) (fun hc43 => ?_)
            ·
              refine CJ.skip ?_
              refine EJ.thenN (hK16 ?_)
              refine CJ.seq fun _ hK18 _ => ?_
              refine CJ.block ?_
              refine CJ.regionD foll0 (by kernel_rfl) ?_
              refine JS.op (PR.move rfl) rfl ?_
              refine JS.op (PR.move rfl) rfl ?_
              refine JS.op (PR.move rfl) rfl ?_
              refine JS.op (PR.idx1 u22 sz2 rfl rfl rfl (by omega) hds.sm) rfl ?_
              refine JS.op (PR.loadH rfl (hds _ (by omega)) pl2) rfl ?_
              refine JS.op (PR.rem rfl rfl (by decide) rfl) rfl ?_
              refine JS.op (PR.move rfl) rfl ?_
              refine JS.op (PR.idxA1 u94 sz3 rfl rfl rfl (by omega)) rfl ?_
              refine JS.op (PR.load rfl (.s (.s .z)) (by first | exact bytesC_get (by simp [*]; omega) | exact intsC_get (by simp [*]; omega)) pl3) rfl ?_
              refine JS.op (PR.mul rfl rfl (by first | exact nw _ (by omega) | rfl)) rfl ?_
              refine JS.op (PR.add rfl rfl (by first | exact nw _ (by omega) | rfl)) rfl ?_
              refine JS.op (PR.assign rfl) rfl ?_
              refine JS.nil ?_
              refine EJ.inN ?_
              refine EJ.thenN (hK18 ?_)
              refine CJ.region ?_
              refine J.p (PR.move rfl) rfl ?_
              refine J.p (PR.add rfl rfl (by first | exact nw _ (by omega) | rfl)) rfl ?_
              refine J.p (PR.assign rfl) rfl ?_
              refine J.nil ?_
              refine EJ.thenN ?_
              exact hAg1 (m + 1) (by omega) (by omega) 21 rfl rfl ⟨(vi (by omega)), ⟨(vi (by simp only [oin]; omega)), trivial⟩⟩ rfl rfl
            ·
              refine CJ.exit ?_
              refine EJ.thenE ?_
              refine EJ.thenE ?_
              refine EJ.inE ?_
              refine EJ.inN ?_
              refine EJ.thenN (hK7 ?_)
              refine CJ.region ?_
              refine J.p (PR.add rfl rfl (by first | exact nw _ (by omega) | rfl)) rfl ?_
              refine J.p (PR.move rfl) rfl ?_
              refine J.nil ?_
              refine EJ.thenN ?_
              exact hAg0 (k + 1) ⟨by omega, upto hhI (hit_q (by omega))⟩ (by omega) 36 rfl rfl ⟨rfl, ⟨(vi (odd_take ⟨h22, by omega⟩ (by omega))), trivial⟩⟩ rfl rfl
          ·
            refine CJ.skip ?_
            refine EJ.inN ?_
            refine EJ.thenN (hK7 ?_)
            refine CJ.region ?_
            refine J.p (PR.add rfl rfl (by first | exact nw _ (by omega) | rfl)) rfl ?_
            refine J.p (PR.move rfl) rfl ?_
            refine J.nil ?_
            refine EJ.thenN ?_
            exact hAg0 (k + 1) ⟨by omega, upto hhI (hit_q (by omega))⟩ (by omega) 27 rfl rfl ⟨rfl, ⟨(vi (odd_skip (fun h => by omega))), trivial⟩⟩ rfl rfl
      ·
        try have h27p := of_decide_eq_false h27
        refine J.gn rfl rfl rfl h27 ?_
        refine J.gn rfl rfl rfl h27 ?_
        refine J.gn rfl rfl rfl h27 ?_
        refine J.gn rfl rfl rfl h27 ?_
        refine J.p (PR.pickF rfl h27 rfl) rfl ?_
        refine J.nil ?_
        refine EJ.thenN (hK12 ?_)
        refine CJ.condF rfl ?_
        refine CJ.skip ?_
        refine EJ.thenN (hK11 ?_)
        refine CJ.seq fun _ hK19 _ => ?_
        refine CJ.region ?_
        refine J.p (PR.move rfl) rfl ?_
        refine J.p (PR.idxA1 u94 sz3 rfl rfl rfl (by omega)) rfl ?_
        refine J.p (PR.load rfl (.s .z) (by first | exact bytesC_get (by simp [*]; omega) | exact intsC_get (by simp [*]; omega)) pl3) rfl ?_
        refine J.p (PR.gtr rfl rfl) rfl ?_
        refine J.nil ?_
        refine EJ.thenN (hK19 ?_)
        refine CJ.condD rfl (fun h37 => ?_) (fun h37 => ?_)
        ·
          refine CJ.seq fun _ hK20 _ => ?_
          refine CJ.region ?_
          refine J.p (PR.move rfl) rfl ?_
          refine J.p (PR.add rfl rfl (by first | exact nw _ (by omega) | rfl)) rfl ?_
          refine J.p (PR.assign rfl) rfl ?_
          refine J.nil ?_
          refine EJ.thenN (hK20 ?_)
          refine CJ.block ?_
          refine CJ.loopU (σ := Nat) (fun (m : Nat) => [(11, .int .i64 ((k + 1 + m : Nat) : Int)), (8, .int .i64 (oddTo ds p q k + oin ds p k m))]) (fun (m : Nat) => H) (fun (m : Nat) => obj g6 (.cells (intsC (List.replicate 8 0)).toArray 94 (0, 0)) :: obj g5 (.cells (intsC q).toArray 94 (0, 0)) :: obj g3 (.cells (intsC p).toArray 94 (0, 0)) :: L) (fun (m : Nat) => k + 1 + m ≤ ds.length) (fun (m : Nat) => ds.length - (k + 1 + m)) 0 (by omega) ⟨(vi (by omega)), ⟨(vi (by simp [oin])), trivial⟩⟩ rfl rfl ?_
          rintro m hI _ hAg2
          have hm9 := hI
          have ob := oin_bd hd hp.bd k m
          have o2 := deg2 hd (k + 1 + m)
          have pb := hp.bd (k + 1 + m)
          have tp : 0 ≤ (ds.getD (k + 1 + m) 0).tmod 2 * p.getD (k + 1 + m) 0 ∧ (ds.getD (k + 1 + m) 0).tmod 2 * p.getD (k + 1 + m) 0 ≤ 1000000 := by rcases o2 with h | h <;> rw [h] <;> first | (rw [Int.zero_mul]; omega) | (rw [Int.one_mul]; omega)
          have mM : ((m : Nat) : Int) * Mp ≤ 8 * 1000000 := Int.mul_le_mul (by omega) (by omega) (by have := hp.bd 0; omega) (by omega)
          refine CJ.seq fun _ hK21 _ => ?_
          refine CJ.seq fun _ hK22 _ => ?_
          refine CJ.region ?_
          refine J.p (PR.move rfl) rfl ?_
          refine J.p (PR.move rfl) rfl ?_
          refine J.p (PR.lenSlice u22 rfl rfl) rfl ?_
          refine J.p (PR.lss rfl rfl) rfl ?_
          refine J.nil ?_
          refine EJ.thenN (hK22 ?_)
          refine CJ.condD rfl (fun hc43 => ?_) (fun hc43 => ?_)
          ·
            refine CJ.skip ?_
            refine EJ.thenN (hK21 ?_)
            refine CJ.seq fun _ hK23 _ => ?_
            refine CJ.block ?_
            refine CJ.regionD foll0 (by kernel_rfl) ?_
            refine JS.op (PR.move rfl) rfl ?_
            refine JS.op (PR.move rfl) rfl ?_
            refine JS.op (PR.move rfl) rfl ?_
            refine JS.op (PR.idx1 u22 sz2 rfl rfl rfl (by omega) hds.sm) rfl ?_
            refine JS.op (PR.loadH rfl (hds _ (by omega)) pl2) rfl ?_
            refine JS.op (PR.rem rfl rfl (by decide) rfl) rfl ?_
            refine JS.op (PR.move rfl) rfl ?_
            refine JS.op (PR.idxA1 u94 sz3 rfl rfl rfl (by omega)) rfl ?_
            refine JS.op (PR.load rfl (.s (.s .z)) (by first | exact bytesC_get (by simp [*]; omega) | exact intsC_get (by simp [*]; omega)) pl3) rfl ?_
            refine JS.op (PR.mul rfl rfl (by first | exact nw _ (by omega) | rfl)) rfl ?_
            refine JS.op (PR.add rfl rfl (by first | exact nw _ (by omega) | rfl)) rfl ?_
            refine JS.op (PR.assign rfl) rfl ?_
            refine JS.nil ?_
            refine EJ.inN ?_
            refine EJ.thenN (hK23 ?_)
            refine CJ.region ?_
            refine J.p (PR.move rfl) rfl ?_
            refine J.p (PR.add rfl rfl (by first | exact nw _ (by omega) | rfl)) rfl ?_
            refine J.p (PR.assign rfl) rfl ?_
            refine J.nil ?_
            refine EJ.thenN ?_
            exact hAg2 (m + 1) (by omega) (by omega) 21 rfl rfl ⟨(vi (by omega)), ⟨(vi (by simp only [oin]; omega)), trivial⟩⟩ rfl rfl
          ·
            refine CJ.exit ?_
            refine EJ.thenE ?_
            refine EJ.thenE ?_
            refine EJ.inE ?_
            refine EJ.inN ?_
            refine EJ.thenN (hK7 ?_)
            refine CJ.region ?_
            refine J.p (PR.add rfl rfl (by first | exact nw _ (by omega) | rfl)) rfl ?_
            refine J.p (PR.move rfl) rfl ?_
            refine J.nil ?_
            refine EJ.thenN ?_
            exact hAg0 (k + 1) ⟨by omega, upto hhI (hit_p h27p)⟩ (by omega) 36 rfl rfl ⟨rfl, ⟨(vi (odd_take ⟨h22, by omega⟩ (by omega))), trivial⟩⟩ rfl rfl
        ·
          refine CJ.skip ?_
          refine EJ.inN ?_
          refine EJ.thenN (hK7 ?_)
          refine CJ.region ?_
          refine J.p (PR.add rfl rfl (by first | exact nw _ (by omega) | rfl)) rfl ?_
          refine J.p (PR.move rfl) rfl ?_
          refine J.nil ?_
          refine EJ.thenN ?_
          exact hAg0 (k + 1) ⟨by omega, upto hhI (hit_p h27p)⟩ (by omega) 27 rfl rfl ⟨rfl, ⟨(vi (odd_skip (fun h => by omega))), trivial⟩⟩ rfl rfl
  ·
    refine CJ.exit ?_
    refine EJ.thenE ?_
    refine EJ.thenE ?_
    refine EJ.inE ?_
    refine EJ.thenN (hK3 ?_)
    refine CJ.seq fun _ hK24 _ => ?_
    refine CJ.seq fun _ hK25 _ => ?_
    refine CJ.region ?_
    refine J.p (PR.move rfl) rfl ?_
    refine J.nil ?_
    refine EJ.thenN (hK25 ?_)
    refine CJ.block ?_
    refine CJ.loopU (σ := Nat) (fun (i : Nat) => [(58, .int .i64 (i : Int))]) (fun (i : Nat) => H) (fun (i : Nat) => obj g6 (.cells (intsC (List.replicate 8 0)).toArray 94 (0, 0)) :: obj g5 (.cells (intsC q).toArray 94 (0, 0)) :: obj g3 (.cells (intsC (addTo p q i)).toArray 94 (0, 0)) :: L) (fun (i : Nat) => i ≤ 8) (fun (i : Nat) => 8 - i) 0 (by omega) ⟨rfl, trivial⟩ rfl (by rw [addTo_zero hp8]) ?_
    rintro i hI _ hAg3
    have hi := hI
    have pb := hp.bd i
    have qb := hq.bd i
    have ag : i < 8 → (addTo p q i).getD i 0 = p.getD i 0 := fun h => by rw [addTo_get h, if_neg (by omega)]
    refine CJ.seq fun _ hK26 _ => ?_
    refine CJ.region ?_
    refine J.p (PR.lss rfl rfl) rfl ?_
    refine J.nil ?_
    refine EJ.thenN (hK26 ?_)
    refine CJ.seq fun _ hK27 _ => ?_
    refine CJ.condD rfl (fun hc59 => ?_) (fun hc59 => ?_)
    ·
      refine CJ.skip ?_
      refine EJ.thenN (hK27 ?_)
      refine CJ.seq fun _ hK28 _ => ?_
      refine CJ.block ?_
      refine CJ.seq fun _ hK29 _ => ?_
      refine CJ.region ?_
      refine J.p (PR.move rfl) rfl ?_
      refine J.p (PR.assign rfl) rfl ?_
      refine J.nil ?_
      refine EJ.thenN (hK29 ?_)
      refine CJ.head [[], [0], [1], [], [3], [4]] (by kernel_rfl) ?_
      refine HJ.op (fun gh => PR.move rfl) ?_
      refine HJ.op (fun gh => PR.idxA1 u94 sz3 rfl rfl rfl (by omega)) ?_
      refine HJ.op (fun gh => PR.load rfl (.s (.s .z)) (by first | exact bytesC_get (by simp [*]; omega) | exact intsC_get (by simp [*]; omega)) pl3) ?_
      refine HJ.op (fun gh => PR.move rfl) ?_
      refine HJ.op (fun gh => PR.idxA1 u94 sz3 rfl rfl rfl (by omega)) ?_
      refine HJ.op (fun gh => PR.load rfl (.s .z) (by first | exact bytesC_get (by simp [*]; omega) | exact intsC_get (by simp [*]; omega)) pl3) ?_
      refine HJ.close 6 3 foll0 (by kernel_rfl) rfl rfl fun gh => ?_
      refine J.conv (us' := (61, _) :: (62, _) :: (63, _) :: (64, _) :: (65, _) :: (66, _) :: _) (L' := _) rfl rfl ?_
      refine J.p (PR.add rfl rfl (by first | exact nw _ (by omega) | rfl)) rfl ?_
      refine J.p (PR.idxA1 u94 sz3 rfl rfl rfl (by omega)) rfl ?_
      refine J.storeI rfl rfl sz3 (by simp [*]; omega) (.s (.s .z)) ?_
      refine J.nil ?_
      refine EJ.still ?_
      refine JS.nil ?_
      refine EJ.inN ?_
      refine EJ.thenN (hK28 ?_)
      refine CJ.region ?_
      refine J.p (PR.add rfl rfl (by first | exact nw _ (by omega) | rfl)) rfl ?_
      refine J.p (PR.move rfl) rfl ?_
      refine J.nil ?_
      refine EJ.thenN ?_
      exact hAg3 (i + 1) (by omega) (by omega) 14 rfl rfl ⟨rfl, trivial⟩ rfl (by simp only [ag (by omega), addTo_set (show i < 8 by omega)])
    ·
      refine CJ.exit ?_
      refine EJ.thenE ?_
      refine EJ.thenE ?_
      refine EJ.inE ?_
      refine EJ.thenN (hK24 ?_)
      refine CJ.seq fun _ hK30 _ => ?_
      refine CJ.seq fun _ hK31 _ => ?_
      refine CJ.region ?_
      refine J.p (PR.move rfl) rfl ?_
      refine J.p (PR.rem rfl rfl (by decide) rfl) rfl ?_
      refine J.p (PR.eql rfl rfl) rfl ?_
      refine J.nil ?_
      refine EJ.thenN (hK31 ?_)
      refine CJ.condD rfl (fun h72 => ?_) (fun h72 => ?_)
      ·
        refine CJ.seq fun _ hK32 _ => ?_
        refine CJ.region ?_
        refine J.p (PR.loadAll rfl (.s (.s .z)) (by simpa [*] using ag94)) rfl ?_
        refine J.storeAll rfl rfl (by first | exact bytesC_one _ | exact intsC_one _ | exact Term.c_one _ | simp [Value.oneCell']) (by simpa [*] using sz94) (by simp [*]) At.z ?_
        refine J.p (PR.assign rfl) rfl ?_
        refine J.nil ?_
        refine EJ.thenN (hK32 ?_)
        refine CJ.ret ?_
        refine EJ.thenR ?_
        refine EJ.ret2 rfl (Res.agg rfl At.z (by simpa [*] using ag94)) (Res.tmp rfl) fun w hH => ?_
        replace hH := hH.tail
        replace hH := hH.tail
        replace hH := hH.tail
        have hk9 : k = ds.length := by omega
        have hi9 : i = 8 := by omega
        subst hi9
        obtain ⟨e1, e2⟩ := sgn_free (p := p) (q := q) (fun j hj => hhI j (by omega))
        rw [hk9] at h72
        rw [e1, e2, addTo_end, if_pos h72]
        exact ⟨rfl, hH⟩
      ·
        refine CJ.skip ?_
        refine EJ.thenN (hK30 ?_)
        refine CJ.seq fun _ hK33 _ => ?_
        refine CJ.region ?_
        refine J.p (PR.loadAll rfl (.s (.s .z)) (by simpa [*] using ag94)) rfl ?_
        refine J.storeAll rfl rfl (by first | exact bytesC_one _ | exact intsC_one _ | exact Term.c_one _ | simp [Value.oneCell']) (by simpa [*] using sz94) (by simp [*]) At.z ?_
        refine J.p (PR.assign rfl) rfl ?_
        refine J.nil ?_
        refine EJ.thenN (hK33 ?_)
        refine CJ.ret ?_
        refine EJ.ret2 rfl (Res.agg rfl At.z (by simpa [*] using ag94)) (Res.tmp rfl) fun w hH => ?_
        replace hH := hH.tail
        replace hH := hH.tail
        replace hH := hH.tail
        have hk9 : k = ds.length := by omega
        have hi9 : i = 8 := by omega
        subst hi9
        obtain ⟨e1, e2⟩ := sgn_free (p := p) (q := q) (fun j hj => hhI j (by omega))
        rw [hk9] at h72
        rw [e1, e2, addTo_end, if_neg h72]
        exact ⟨rfl, hH⟩
end Go.Proofs.Ytpojpokldncglaa.G
