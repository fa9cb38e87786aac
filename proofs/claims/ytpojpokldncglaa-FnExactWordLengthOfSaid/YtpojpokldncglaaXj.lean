/- The product of two monomials, as the reference has it. No condition. -/
import Derived.Test.YtpojpokldncglaaGMap
import Derived.Test.YtpojpokldncglaaProg
import Derived.Test.YtpojpokldncglaaWa
import Derived.Test.YtpojpokldncglaaWb
import Derived.Test.YtpojpokldncglaaWc
import Derived.Test.YtpojpokldncglaaWd
import Derived.Test.YtpojpokldncglaaWe
import Derived.Test.YtpojpokldncglaaWf
import Derived.Test.YtpojpokldncglaaWg
import Derived.Test.YtpojpokldncglaaWh
import Derived.Test.YtpojpokldncglaaWi
import Derived.Test.YtpojpokldncglaaWj
import Derived.Test.YtpojpokldncglaaWk
import Derived.Test.YtpojpokldncglaaWl
import Derived.Test.YtpojpokldncglaaWm
import Derived.Test.YtpojpokldncglaaWn
import Derived.Test.YtpojpokldncglaaWo
import Derived.Test.YtpojpokldncglaaWp
import Derived.Test.YtpojpokldncglaaXa
import Derived.Test.YtpojpokldncglaaXb
import Derived.DeepKeys4
import Derived.Test.YtpojpokldncglaaXc
import Derived.Test.YtpojpokldncglaaXd
import Derived.Test.YtpojpokldncglaaXe
import Derived.Test.YtpojpokldncglaaXf
import Derived.Test.YtpojpokldncglaaXg
import Derived.Test.YtpojpokldncglaaXh
import Derived.Test.YtpojpokldncglaaXi
set_option linter.unusedVariables false
set_option linter.unusedSimpArgs false
namespace Go.Proofs.Ytpojpokldncglaa.G
open Go Go.RowKit
namespace Xj
theorem u2 : Try.prog.underlying 2 = some (TypeDesc.int .i64) := by kernel_rfl
theorem u22 : Try.prog.underlying 22 = some (TypeDesc.slice 2) := by kernel_rfl
theorem u5 : Try.prog.underlying 5 = some (TypeDesc.int .u8) := by kernel_rfl
theorem u86 : Try.prog.underlying 86 = some (TypeDesc.array 8 5) := by kernel_rfl
theorem sz2 : Size Try.prog 2 1 := by unfold Size; kernel_rfl
theorem sz5 : Size Try.prog 5 1 := by unfold Size; kernel_rfl
theorem sz86 : Size Try.prog 86 8 := by unfold Size; kernel_rfl
theorem ze86 : Zero Try.prog 86 [.int .u8 0, .int .u8 0, .int .u8 0, .int .u8 0, .int .u8 0, .int .u8 0, .int .u8 0, .int .u8 0] := by unfold Zero; kernel_rfl
theorem bz86 : ∀ w, (Instr.build 86 #[]).run Try.prog w = .ok (.agg [.int .u8 0, .int .u8 0, .int .u8 0, .int .u8 0, .int .u8 0, .int .u8 0, .int .u8 0, .int .u8 0].toArray) w := fun _ => by kernel_rfl
theorem pl2 : Plain Try.prog 2 := ⟨_, u2, rfl⟩
theorem pl5 : Plain Try.prog 5 := ⟨_, u5, rfl⟩
theorem ag86 : Agg Try.prog 86 8 := ⟨_, u86, rfl, by kernel_rfl⟩
theorem foll0 : Try.prog.follows .mixedOrders = true := by kernel_rfl
end Xj
open Xj
set_option maxRecDepth 10000 in
theorem l01Mod_c {B : World} {H0 H : HP} {L : List SA} {w : World} {x : Int}  (hx : -1000000000000 ≤ x ∧ x ≤ 1000000000000) (hH : Hp B H0 H L w) :
    Calls Try.prog 151 [.int .i64 x].toArray w fun e w' => e = .returned (.int .i64 (fld x)) ∧ Hp B H0 H L w' := by
  refine CJ.enter Try.func151 rfl 7 rfl rfl [(0, .int .i64 x)] rfl hH ?_
  clear hH
  have hb := tmod_bd x
  refine CJ.seq fun _ hK1 _ => ?_
  refine CJ.region ?_
  refine J.p (PR.assign rfl) rfl ?_
  refine J.nil ?_
  refine EJ.thenN (hK1 ?_)
  refine CJ.seq fun _ hK2 _ => ?_
  refine CJ.region ?_
  refine J.p (PR.move rfl) rfl ?_
  refine J.p (PR.rem rfl rfl (by decide) rfl) rfl ?_
  refine J.p (PR.add rfl rfl (by first | exact nw _ (by omega) | rfl)) rfl ?_
  refine J.p (PR.rem rfl rfl (by decide) rfl) rfl ?_
  refine J.p (PR.assign rfl) rfl ?_
  refine J.nil ?_
  refine EJ.thenN (hK2 ?_)
  refine CJ.ret ?_
  refine EJ.ret1 rfl (Res.tmp rfl) fun w hH => ?_
  exact ⟨rfl, hH⟩

theorem u8_id {x : Int} (h : 0 ≤ x ∧ x ≤ 255) : IntKind.u8.wrap x = x := by
  have := Int.emod_emod_of_dvd x (show (256 : Int) ∣ 256 from ⟨1, rfl⟩)
  simp [IntKind.wrap, IntKind.bits, IntKind.signed]
  omega
/-- exponents as the degrees let them be -/
structure Ex (ds p : Pw) : Prop where
  out : ∀ i, ds.length ≤ i → p.getD i 0 = 0
  odd : ∀ i, i < ds.length → (ds.getD i 0).tmod 2 ≠ 0 → p.getD i 0 ≤ 1
def sgK (x : Int) : Int := if x.tmod 2 = 1 then -1 else 1
theorem sgK_flip {a : Int} (h : 0 ≤ a) : 0 - sgK a = sgK (a + 1) := by
  unfold sgK
  rw [Int.tmod_eq_emod_of_nonneg h, Int.tmod_eq_emod_of_nonneg (by omega)]
  split <;> split <;> omega
theorem sgK_bd (a : Int) : -1 ≤ sgK a ∧ sgK a ≤ 1 := by unfold sgK; split <;> omega
def addK (p q : Pw) (k : Nat) : Pw := (List.range 8).map fun i => if i < k then p.getD i 0 + q.getD i 0 else 0
@[simp] theorem addK_len (p q : Pw) (k : Nat) : (addK p q k).length = 8 := by simp [addK]
theorem addK_get {p q : Pw} {k i : Nat} (h : i < 8) : (addK p q k).getD i 0 = if i < k then p.getD i 0 + q.getD i 0 else 0 := by simp [addK, List.getD_eq_getElem?_getD, h]
theorem addK_zero (p q : Pw) : addK p q 0 = List.replicate 8 0 := list8 (by simp) (by simp) fun j hj => by
  rw [addK_get hj, if_neg (by omega), List.getD_eq_getElem?_getD, List.getElem?_replicate, if_pos hj]
  rfl
theorem addK_set {p q : Pw} {k : Nat} (hk : k < 8) : (addK p q k).set k (p.getD k 0 + q.getD k 0) = addK p q (k + 1) := list8 (by simp) (by simp) fun j hj => by
  rw [getD_set8, addK_get hj, addK_get hj]
  by_cases e : k = j
  · subst e
    rw [if_pos ⟨rfl, by simpa using hk⟩, if_pos (by omega)]
  · rw [if_neg fun h => e h.1]
    by_cases h : j < k
    · rw [if_pos h, if_pos (by omega)]
    · rw [if_neg h, if_neg (by omega)]
theorem addK_end {ds p q : Pw} (hp : p.length = 8) (hq : q.length = 8) (h1 : Ex ds p) (h2 : Ex ds q) : addK p q ds.length = addp p q := list8 (by simp) (by simp) fun j hj => by
  rw [addK_get hj, addp_get hp hq]
  split
  · rfl
  · rw [h1.out j (by omega), h2.out j (by omega)]
    rfl
theorem oin_one {ds p : Pw} {i r : Nat} (hd : ∀ j, 0 ≤ ds.getD j 0 ∧ ds.getD j 0 ≤ 12) (h : (ds.getD (i + 1 + r) 0).tmod 2 ≠ 0) (hm : p.getD (i + 1 + r) 0 = 1) : oin ds p i (r + 1) = oin ds p i r + 1 := by
  simp only [oin]
  rw [hm]
  rcases deg2 hd (i + 1 + r) with h' | h' <;> omega
theorem oin_nil {ds p : Pw} {i r : Nat} (h : (ds.getD (i + 1 + r) 0).tmod 2 = 0 ∨ p.getD (i + 1 + r) 0 = 0) : oin ds p i (r + 1) = oin ds p i r := by
  simp only [oin]
  rcases h with h | h <;> rw [h]
  · rw [Int.zero_mul]; omega
  · rw [Int.mul_zero]; omega
theorem jn_none {ds m k : Pw} {i r : Nat} (h2 : k.getD i 0 ≤ 1) (h0 : 0 ≤ k.getD i 0) (hr : r = 0 ∨ k.getD i 0 = 1) (h : ¬ k.getD i 0 = 1) : sgK (oddTo ds m k i + oin ds m i r) = sgK (oddTo ds m k (i + 1)) := by
  have e : r = 0 := hr.resolve_right h
  subst e
  rw [← odd_skip (fun h' => by omega)]
  simp [oin]
theorem jn_end {ds m k : Pw} {i r : Nat} (h33 : ¬ (ds.getD i 0).tmod 2 = 0) (h2 : k.getD i 0 ≤ 1) (h0 : 0 ≤ k.getD i 0) (hr : r = 0 ∨ k.getD i 0 = 1) (h : r = ds.length - (i + 1)) : sgK (oddTo ds m k i + oin ds m i r) = sgK (oddTo ds m k (i + 1)) := by
  by_cases e : k.getD i 0 = 1
  · rw [odd_take ⟨h33, by omega⟩ h]
  · exact jn_none h2 h0 hr e
theorem hit_no {ds p q : Pw} {k : Nat} (hp : 0 ≤ p.getD k 0) (hq : 0 ≤ q.getD k 0) (h : ¬ p.getD k 0 + q.getD k 0 > 1) : hitAt ds p q k = false := by
  by_cases e : p.getD k 0 > 0
  · exact hit_q (by omega)
  · exact hit_p e

set_option maxHeartbeats 4000000 in
set_option maxRecDepth 10000 in
theorem l01Joined_c {B : World} {H0 H : HP} {L : List SA} {w : World} {qds : Option Addr} {cds : Nat} {ds : List Int} {m : List Int} {k : List Int}  (hds : Ints H qds ds) (hm : Mono m) (hk : Mono k) (hn : ds.length ≤ 8) (hd : ∀ j, 0 ≤ ds.getD j 0 ∧ ds.getD j 0 ≤ 12) (h1 : Ex ds m) (h2 : Ex ds k) (hb : ∀ i, m.getD i 0 + k.getD i 0 ≤ 255) (hH : Hp B H0 H L w) :
    Calls Try.prog 184 [.slice qds ds.length cds, .agg (bytesC m).toArray, .agg (bytesC k).toArray].toArray w fun e w' => e = .returned (.tuple #[.agg (bytesC (prodP ds m k)).toArray, .int .i64 (sgn ds m k)]) ∧ Hp B H0 H L w' := by
  refine CJ.enter Try.func184 rfl 69 rfl rfl [(0, .slice qds ds.length cds), (1, .agg (bytesC m).toArray), (2, .agg (bytesC k).toArray)] rfl hH ?_
  have hml := hm.len
  have hkl := hk.len
  clear hH
  refine CJ.seq fun _ hK1 _ => ?_
  refine CJ.region ?_
  refine J.box rfl rfl rfl fun g4 => ?_
  refine J.box rfl rfl rfl fun g5 => ?_
  refine J.alloc ze86 rfl fun g6 => ?_
  refine J.p (PR.assign rfl) rfl ?_
  refine J.nil ?_
  refine EJ.thenN (hK1 ?_)
  refine CJ.seq fun _ hK2 _ => ?_
  refine CJ.region ?_
  refine J.p (PR.buildZ bz86) rfl ?_
  refine J.alloc ze86 rfl fun g8 => ?_
  refine J.storeAll rfl rfl (by first | exact bytesC_one _ | exact intsC_one _ | exact Term.c_one _ | simp [Value.oneCell']) (by simpa [*] using sz86) (by simp [*]) At.z ?_
  refine J.p (PR.assign rfl) rfl ?_
  refine J.nil ?_
  refine EJ.thenN (hK2 ?_)
  refine CJ.seq fun _ hK3 _ => ?_
  refine CJ.seq fun _ hK4 _ => ?_
  refine CJ.region ?_
  refine J.p (PR.assign rfl) rfl ?_
  refine J.nil ?_
  refine EJ.thenN (hK4 ?_)
  refine CJ.block ?_
  refine CJ.loopU (σ := Nat) (fun (i : Nat) => [(10, .int .i64 (i : Int)), (9, .int .i64 (sgK (oddTo ds m k i)))]) (fun (i : Nat) => H) (fun (i : Nat) => obj g8 (.cells (bytesC (addK m k i)).toArray 86 (0, 0)) :: obj g6 (.cells (bytesC (List.replicate 8 0)).toArray 86 (0, 0)) :: obj g5 (.cells (bytesC k).toArray 86 (0, 0)) :: obj g4 (.cells (bytesC m).toArray 86 (0, 0)) :: L) (fun (i : Nat) => i ≤ ds.length ∧ ∀ j, j < i → hitAt ds m k j = false) (fun (i : Nat) => ds.length - i) 0 ⟨by omega, fun j hj => by omega⟩ ⟨rfl, ⟨rfl, trivial⟩⟩ rfl (by rw [addK_zero]; rfl) ?_
  rintro i ⟨hi, hh⟩ _ hAg0
  have mb := hm.bd i
  have kb := hk.bd i
  have sb := hb i
  have gi : i < ds.length → ((addK m k i).set i (m.getD i 0 + k.getD i 0)).getD i 0 = m.getD i 0 + k.getD i 0 := fun h => by rw [getD_set8, if_pos ⟨rfl, by simp; omega⟩]
  have ob := oddTo_bd hn hd hm.bd (q := k) i
  refine CJ.seq fun _ hK5 _ => ?_
  refine CJ.seq fun _ hK6 _ => ?_
  refine CJ.region ?_
  refine J.p (PR.move rfl) rfl ?_
  refine J.p (PR.move rfl) rfl ?_
  refine J.p (PR.lenSlice u22 rfl rfl) rfl ?_
  refine J.p (PR.lss rfl rfl) rfl ?_
  refine J.nil ?_
  refine EJ.thenN (hK6 ?_)
  refine CJ.condD rfl (fun hc16 => ?_) (fun hc16 => ?_)
  ·
    refine CJ.skip ?_
    refine EJ.thenN (hK5 ?_)
    refine CJ.seq fun _ hK7 _ => ?_
    refine CJ.block ?_
    refine CJ.seq fun _ hK8 _ => ?_
    refine CJ.head [[], [], [1], [2], [], [4], [5], [3, 6]] (by kernel_rfl) ?_
    refine HJ.op (fun gh => PR.move rfl) ?_
    refine HJ.op (fun gh => PR.move rfl) ?_
    refine HJ.op (fun gh => PR.idxA1 u86 sz5 rfl rfl rfl (by omega)) ?_
    refine HJ.op (fun gh => PR.load rfl (.s (.s (.s .z))) (by first | exact bytesC_get (by simp [*]; omega) | exact intsC_get (by simp [*]; omega)) pl5) ?_
    refine HJ.op (fun gh => PR.move rfl) ?_
    refine HJ.op (fun gh => PR.idxA1 u86 sz5 rfl rfl rfl (by omega)) ?_
    refine HJ.op (fun gh => PR.load rfl (.s (.s .z)) (by first | exact bytesC_get (by simp [*]; omega) | exact intsC_get (by simp [*]; omega)) pl5) ?_
    refine HJ.op (fun gh => PR.add rfl rfl (u8_id (by omega))) ?_
    refine HJ.close 8 2 foll0 (by kernel_rfl) rfl rfl fun gh => ?_
    refine J.conv (us' := (19, _) :: (20, _) :: (21, _) :: (22, _) :: (23, _) :: (24, _) :: (25, _) :: (26, _) :: _) (L' := _) rfl rfl ?_
    refine J.p (PR.idxA1 u86 sz5 rfl rfl rfl (by omega)) rfl ?_
    refine J.storeB rfl rfl sz5 (by simp; omega) At.z ?_
    refine J.nil ?_
    refine EJ.still ?_
    refine JS.nil ?_
    refine EJ.thenN (hK8 ?_)
    refine CJ.seq fun _ hK9 _ => ?_
    refine CJ.seq fun _ hK10 _ => ?_
    refine CJ.region ?_
    refine J.p (PR.move rfl) rfl ?_
    refine J.p (PR.move rfl) rfl ?_
    refine J.p (PR.idx1 u22 sz2 rfl rfl rfl (by omega) hds.sm) rfl ?_
    refine J.p (PR.loadH rfl (hds _ (by omega)) pl2) rfl ?_
    refine J.p (PR.rem rfl rfl (by decide) rfl) rfl ?_
    refine J.p (PR.eql rfl rfl) rfl ?_
    refine J.nil ?_
    refine EJ.thenN (hK10 ?_)
    refine CJ.condD rfl (fun h33 => ?_) (fun h33 => ?_)
    ·
      refine CJ.exit ?_
      refine EJ.thenE ?_
      refine EJ.inE ?_
      refine EJ.thenN (hK7 ?_)
      refine CJ.region ?_
      refine J.p (PR.move rfl) rfl ?_
      refine J.p (PR.add rfl rfl (by first | exact nw _ (by omega) | rfl)) rfl ?_
      refine J.p (PR.assign rfl) rfl ?_
      refine J.nil ?_
      refine EJ.thenN ?_
      exact hAg0 (i + 1) ⟨by omega, upto hh (hit_even h33)⟩ (by omega) 24 rfl rfl ⟨rfl, ⟨(vi (by rw [odd_skip (fun h => h.1 h33)])), trivial⟩⟩ rfl (by simp only [addK_set (show i < 8 by omega)])
    ·
      refine CJ.skip ?_
      refine EJ.thenN (hK9 ?_)
      refine CJ.seq fun _ hK11 _ => ?_
      refine CJ.seq fun _ hK12 _ => ?_
      refine CJ.region ?_
      refine J.p (PR.move rfl) rfl ?_
      refine J.p (PR.idxA1 u86 sz5 rfl rfl rfl (by omega)) rfl ?_
      refine J.p (PR.load rfl At.z ((bytesC_get (by simp; omega)).trans (congrArg (fun x => some (Value.int .u8 x)) (gi (by omega)))) pl5) rfl ?_
      refine J.p (PR.gtr rfl rfl) rfl ?_
      refine J.nil ?_
      refine EJ.thenN (hK12 ?_)
      refine CJ.condD rfl (fun h37 => ?_) (fun h37 => ?_)
      ·
        refine CJ.seq fun _ hK13 _ => ?_
        refine CJ.region ?_
        refine J.p (PR.buildZ bz86) rfl ?_
        refine J.storeAll rfl rfl (by first | exact bytesC_one _ | exact intsC_one _ | exact Term.c_one _ | simp [Value.oneCell']) (by simpa [*] using sz86) (by simp [*]) (.s .z) ?_
        refine J.p (PR.assign rfl) rfl ?_
        refine J.nil ?_
        refine EJ.thenN (hK13 ?_)
        refine CJ.ret ?_
        refine EJ.thenR ?_
        refine EJ.inR ?_
        refine EJ.thenR ?_
        refine EJ.thenR ?_
        refine EJ.inR ?_
        refine EJ.thenR ?_
        refine EJ.ret2 rfl (Res.agg rfl (.s .z) (by simpa [*] using ag86)) (Res.tmp rfl) fun w hH => ?_
        replace hH := hH.tail
        replace hH := hH.tail
        replace hH := hH.tail
        replace hH := hH.tail
        obtain ⟨e1, e2⟩ := sgn_hit (by omega) (hit_yes (p := m) (q := k) (ds := ds) (k := i) h33 (by have := h1.odd i (by omega) h33; have := h2.odd i (by omega) h33; omega) (by have := h1.odd i (by omega) h33; have := h2.odd i (by omega) h33; omega))
        rw [e1, e2]
        exact ⟨rfl, hH⟩
      ·
        refine CJ.skip ?_
        refine EJ.thenN (hK11 ?_)
        refine CJ.seq fun _ hK14 _ => ?_
        refine CJ.region ?_
        refine J.p (PR.move rfl) rfl ?_
        refine J.p (PR.add rfl rfl (by first | exact nw _ (by omega) | rfl)) rfl ?_
        refine J.p (PR.assign rfl) rfl ?_
        refine J.nil ?_
        refine EJ.thenN (hK14 ?_)
        refine CJ.block ?_
        refine CJ.loopU (σ := Nat) (fun (r : Nat) => [(11, .int .i64 ((i + 1 + r : Nat) : Int)), (9, .int .i64 (sgK (oddTo ds m k i + oin ds m i r)))]) (fun (r : Nat) => H) (fun (r : Nat) => obj g8 (.cells (bytesC (addK m k (i + 1))).toArray 86 (0, 0)) :: obj g6 (.cells (bytesC (List.replicate 8 0)).toArray 86 (0, 0)) :: obj g5 (.cells (bytesC k).toArray 86 (0, 0)) :: obj g4 (.cells (bytesC m).toArray 86 (0, 0)) :: L) (fun (r : Nat) => i + 1 + r ≤ ds.length ∧ (r = 0 ∨ k.getD i 0 = 1)) (fun (r : Nat) => ds.length - (i + 1 + r)) 0 ⟨by omega, .inl rfl⟩ ⟨(vi (by omega)), ⟨(vi (by simp [oin])), trivial⟩⟩ rfl (by simp only [addK_set (show i < 8 by omega)]) ?_
        rintro r ⟨hr, hk1⟩ _ hAg1
        have m2 := hm.bd (i + 1 + r)
        have ib := oin_bd hd hm.bd i r
        have s2 := sgK_bd (oddTo ds m k i + oin ds m i r)
        have o9 := h1.odd (i + 1 + r)
        refine CJ.seq fun _ hK15 _ => ?_
        refine CJ.seq fun _ hK16 _ => ?_
        refine CJ.region ?_
        refine J.p (PR.move rfl) rfl ?_
        refine J.p (PR.move rfl) rfl ?_
        refine J.p (PR.lenSlice u22 rfl rfl) rfl ?_
        refine J.p (PR.lss rfl rfl) rfl ?_
        refine J.p (PR.move rfl) rfl ?_
        refine J.splitB (jd := 45) rfl (fun h45 => ?_) (fun h45 => ?_)
        ·
          try have h45p := of_decide_eq_true h45
          refine J.gy (PR.move rfl) rfl rfl rfl h45 ?_
          refine J.gy (PR.idxA1 u86 sz5 rfl rfl rfl (by omega)) rfl rfl rfl h45 ?_
          refine J.gy (PR.load rfl (.s (.s .z)) (by first | exact bytesC_get (by simp [*]; omega) | exact intsC_get (by simp [*]; omega)) pl5) rfl rfl rfl h45 ?_
          refine J.gy (PR.eql rfl rfl) rfl rfl rfl h45 ?_
          refine J.p (PR.pickT rfl h45 rfl) rfl ?_
          refine J.nil ?_
          refine EJ.thenN (hK16 ?_)
          refine CJ.condD rfl (fun h50 => ?_) (fun h50 => ?_)
          ·
            refine CJ.skip ?_
            refine EJ.thenN (hK15 ?_)
            refine CJ.seq fun _ hK17 _ => ?_
            refine CJ.block ?_
            refine CJ.seq fun _ hK18 _ => ?_
            refine CJ.region ?_
            refine J.p (PR.move rfl) rfl ?_
            refine J.p (PR.move rfl) rfl ?_
            refine J.p (PR.idx1 u22 sz2 rfl rfl rfl (by omega) hds.sm) rfl ?_
            refine J.p (PR.loadH rfl (hds _ (by omega)) pl2) rfl ?_
            refine J.p (PR.rem rfl rfl (by decide) rfl) rfl ?_
            refine J.p (PR.neq rfl rfl) rfl ?_
            refine J.p (PR.move rfl) rfl ?_
            refine J.splitB (jd := 59) rfl (fun h59 => ?_) (fun h59 => ?_)
            ·
              try have h59p := of_decide_eq_true h59
              refine J.gy (PR.move rfl) rfl rfl rfl h59 ?_
              refine J.gy (PR.idxA1 u86 sz5 rfl rfl rfl (by omega)) rfl rfl rfl h59 ?_
              refine J.gy (PR.load rfl (.s (.s (.s .z))) (by first | exact bytesC_get (by simp [*]; omega) | exact intsC_get (by simp [*]; omega)) pl5) rfl rfl rfl h59 ?_
              refine J.gy (PR.eql rfl rfl) rfl rfl rfl h59 ?_
              refine J.p (PR.pickT rfl h59 rfl) rfl ?_
              refine J.nil ?_
              refine EJ.thenN (hK18 ?_)
              refine CJ.condD rfl (fun h64 => ?_) (fun h64 => ?_)
              ·
                refine CJ.region ?_
                refine J.p (PR.move rfl) rfl ?_
                refine J.p (PR.neg rfl (by first | exact nw _ (by omega) | rfl)) rfl ?_
                refine J.p (PR.assign rfl) rfl ?_
                refine J.nil ?_
                refine EJ.inN ?_
                refine EJ.thenN (hK17 ?_)
                refine CJ.region ?_
                refine J.p (PR.move rfl) rfl ?_
                refine J.p (PR.add rfl rfl (by first | exact nw _ (by omega) | rfl)) rfl ?_
                refine J.p (PR.assign rfl) rfl ?_
                refine J.nil ?_
                refine EJ.thenN ?_
                exact hAg1 (r + 1) ⟨by omega, .inr h50⟩ (by omega) 30 rfl rfl ⟨(vi (by omega)), ⟨(vi (by rw [oin_one hd h59p h64, ← Int.add_assoc, sgK_flip (by omega)])), trivial⟩⟩ rfl rfl
              ·
                refine CJ.skip ?_
                refine EJ.inN ?_
                refine EJ.thenN (hK17 ?_)
                refine CJ.region ?_
                refine J.p (PR.move rfl) rfl ?_
                refine J.p (PR.add rfl rfl (by first | exact nw _ (by omega) | rfl)) rfl ?_
                refine J.p (PR.assign rfl) rfl ?_
                refine J.nil ?_
                refine EJ.thenN ?_
                exact hAg1 (r + 1) ⟨by omega, .inr h50⟩ (by omega) 27 rfl rfl ⟨(vi (by omega)), ⟨(vi (by rw [oin_nil (.inr (by have := o9 (by omega) h59p; omega))])), trivial⟩⟩ rfl rfl
            ·
              try have h59p := of_decide_eq_false h59
              refine J.gn rfl rfl rfl h59 ?_
              refine J.gn rfl rfl rfl h59 ?_
              refine J.gn rfl rfl rfl h59 ?_
              refine J.gn rfl rfl rfl h59 ?_
              refine J.p (PR.pickF rfl h59 rfl) rfl ?_
              refine J.nil ?_
              refine EJ.thenN (hK18 ?_)
              refine CJ.condF rfl ?_
              refine CJ.skip ?_
              refine EJ.inN ?_
              refine EJ.thenN (hK17 ?_)
              refine CJ.region ?_
              refine J.p (PR.move rfl) rfl ?_
              refine J.p (PR.add rfl rfl (by first | exact nw _ (by omega) | rfl)) rfl ?_
              refine J.p (PR.assign rfl) rfl ?_
              refine J.nil ?_
              refine EJ.thenN ?_
              exact hAg1 (r + 1) ⟨by omega, .inr h50⟩ (by omega) 27 rfl rfl ⟨(vi (by omega)), ⟨(vi (by rw [oin_nil (.inl (by omega))])), trivial⟩⟩ rfl rfl
          ·
            refine CJ.exit ?_
            refine EJ.thenE ?_
            refine EJ.thenE ?_
            refine EJ.inE ?_
            refine EJ.inN ?_
            refine EJ.thenN (hK7 ?_)
            refine CJ.region ?_
            refine J.p (PR.move rfl) rfl ?_
            refine J.p (PR.add rfl rfl (by first | exact nw _ (by omega) | rfl)) rfl ?_
            refine J.p (PR.assign rfl) rfl ?_
            refine J.nil ?_
            refine EJ.thenN ?_
            exact hAg0 (i + 1) ⟨by omega, upto hh (hit_no (by omega) (by omega) h37)⟩ (by omega) 43 rfl rfl ⟨rfl, ⟨(vi (jn_none (k := k) (h2.odd i (by omega) h33) (by omega) hk1 h50)), trivial⟩⟩ rfl rfl
        ·
          try have h45p := of_decide_eq_false h45
          refine J.gn rfl rfl rfl h45 ?_
          refine J.gn rfl rfl rfl h45 ?_
          refine J.gn rfl rfl rfl h45 ?_
          refine J.gn rfl rfl rfl h45 ?_
          refine J.p (PR.pickF rfl h45 rfl) rfl ?_
          refine J.nil ?_
          refine EJ.thenN (hK16 ?_)
          refine CJ.condF rfl ?_
          refine CJ.exit ?_
          refine EJ.thenE ?_
          refine EJ.thenE ?_
          refine EJ.inE ?_
          refine EJ.inN ?_
          refine EJ.thenN (hK7 ?_)
          refine CJ.region ?_
          refine J.p (PR.move rfl) rfl ?_
          refine J.p (PR.add rfl rfl (by first | exact nw _ (by omega) | rfl)) rfl ?_
          refine J.p (PR.assign rfl) rfl ?_
          refine J.nil ?_
          refine EJ.thenN ?_
          exact hAg0 (i + 1) ⟨by omega, upto hh (hit_no (by omega) (by omega) h37)⟩ (by omega) 43 rfl rfl ⟨rfl, ⟨(vi (jn_end (k := k) h33 (h2.odd i (by omega) h33) (by omega) hk1 (by omega))), trivial⟩⟩ rfl rfl
  ·
    refine CJ.exit ?_
    refine EJ.thenE ?_
    refine EJ.thenE ?_
    refine EJ.inE ?_
    refine EJ.thenN (hK3 ?_)
    refine CJ.seq fun _ hK19 _ => ?_
    refine CJ.region ?_
    refine J.p (PR.loadAll rfl At.z (by simpa [*] using ag86)) rfl ?_
    refine J.p (PR.move rfl) rfl ?_
    refine J.storeAll rfl rfl (by first | exact bytesC_one _ | exact intsC_one _ | exact Term.c_one _ | simp [Value.oneCell']) (by simpa [*] using sz86) (by simp [*]) (.s .z) ?_
    refine J.p (PR.assign rfl) rfl ?_
    refine J.nil ?_
    refine EJ.thenN (hK19 ?_)
    refine CJ.ret ?_
    refine EJ.ret2 rfl (Res.agg rfl (.s .z) (by simpa [*] using ag86)) (Res.tmp rfl) fun w hH => ?_
    replace hH := hH.tail
    replace hH := hH.tail
    replace hH := hH.tail
    replace hH := hH.tail
    have hi9 : i = ds.length := by omega
    obtain ⟨e1, e2⟩ := sgn_free (ds := ds) (p := m) (q := k) (fun j hj => hh j (by omega))
    rw [e1, e2, hi9, addK_end hm.len hk.len h1 h2]
    exact ⟨rfl, hH⟩
end Go.Proofs.Ytpojpokldncglaa.G
