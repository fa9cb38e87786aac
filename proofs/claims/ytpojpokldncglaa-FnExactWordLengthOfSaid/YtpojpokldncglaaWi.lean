/- The walks: what each Go function does, shown from its text. No condition. -/
import Derived.Test.YtpojpokldncglaaGAlg
import Derived.Test.YtpojpokldncglaaProg
import Derived.Test.YtpojpokldncglaaWa
import Derived.Test.YtpojpokldncglaaWb
import Derived.Test.YtpojpokldncglaaWc
import Derived.Test.YtpojpokldncglaaWd
import Derived.Test.YtpojpokldncglaaWe
import Derived.Test.YtpojpokldncglaaWf
import Derived.Test.YtpojpokldncglaaWg
import Derived.Test.YtpojpokldncglaaWh
set_option linter.unusedVariables false
set_option linter.unusedSimpArgs false
namespace Go.Proofs.Ytpojpokldncglaa.G
open Go Go.RowKit
namespace Wi
theorem u2 : Try.prog.underlying 2 = some (TypeDesc.int .i64) := by kernel_rfl
theorem u27 : Try.prog.underlying 27 = some (TypeDesc.slice 88) := by kernel_rfl
theorem u29 : Try.prog.underlying 29 = some (TypeDesc.struct #[{ name := "Terms", type := 27, offset := 0, embedded := false, tag := "", pkgPath := "", byteOffset := 0 }]) := by kernel_rfl
theorem u3 : Try.prog.underlying 3 = some (TypeDesc.int .i64) := by kernel_rfl
theorem u5 : Try.prog.underlying 5 = some (TypeDesc.int .u8) := by kernel_rfl
theorem u86 : Try.prog.underlying 86 = some (TypeDesc.array 8 5) := by kernel_rfl
theorem u88 : Try.prog.underlying 88 = some (TypeDesc.struct #[{ name := "Monomial", type := 86, offset := 0, embedded := false, tag := "", pkgPath := "", byteOffset := 0 }, { name := "Factor", type := 2, offset := 8, embedded := false, tag := "", pkgPath := "", byteOffset := 8 }]) := by kernel_rfl
theorem sz2 : Size Try.prog 2 1 := by unfold Size; kernel_rfl
theorem sz27 : Size Try.prog 27 1 := by unfold Size; kernel_rfl
theorem sz5 : Size Try.prog 5 1 := by unfold Size; kernel_rfl
theorem sz86 : Size Try.prog 86 8 := by unfold Size; kernel_rfl
theorem sz88 : Size Try.prog 88 9 := by unfold Size; kernel_rfl
theorem pl2 : Plain Try.prog 2 := ⟨_, u2, rfl⟩
theorem pl27 : Plain Try.prog 27 := ⟨_, u27, rfl⟩
theorem pl5 : Plain Try.prog 5 := ⟨_, u5, rfl⟩
theorem fn81 : Fn Try.prog 81 := ⟨_, Try.func81, by kernel_rfl, rfl⟩
theorem fn82 : Fn Try.prog 82 := ⟨_, Try.func82, by kernel_rfl, rfl⟩
end Wi
open Wi
set_option maxHeartbeats 1000000 in
set_option maxRecDepth 10000 in
theorem markTermS_s {B : World} {H0 H : HP} {L : List SA} {w : World} {gxs mxs cxs : Nat} {xs : List Value} {k : Int}  (hm : mxs * 9 ≤ xs.length) (hn : 0 ≤ k ∧ k + 9 * mxs ≤ 9223372036854775807) (hH : Hp B H0 H (obj gxs (.cells xs.toArray 88 (0, 0)) :: L) w) :
    Calls Try.prog 81 [.slice (some ⟨gxs, 0, none⟩) mxs cxs, .int .i64 k].toArray w fun e w' => e = .returned (.int .i64 (k + 9 * mxs)) ∧ Hp B H0 H (obj gxs (.cells (tsC (marksT k mxs) ++ xs.drop (mxs * 9)).toArray 88 (0, 0)) :: L) w' := by
  refine CJ.enter Try.func81 rfl 35 rfl rfl [(0, .slice (some ⟨gxs, 0, none⟩) mxs cxs), (1, .int .i64 k)] rfl hH ?_
  clear hH
  have hML : (tsC (marksT k mxs)).length = mxs * 9 := by rw [tsC_length (marksT_wfs hn), marksT_length]
  refine CJ.seq fun _ hK1 _ => ?_
  refine CJ.region ?_
  refine J.p (PR.assign rfl) rfl ?_
  refine J.nil ?_
  refine EJ.thenN (hK1 ?_)
  refine CJ.seq fun _ hK2 _ => ?_
  refine CJ.seq fun _ hK3 _ => ?_
  refine CJ.region ?_
  refine J.p (PR.assign rfl) rfl ?_
  refine J.nil ?_
  refine EJ.thenN (hK3 ?_)
  refine CJ.block ?_
  refine CJ.loopU (σ := Nat) (fun (i : Nat) => [(5, .int .i64 (i : Int)), (1, .int .i64 (k + 9 * i))]) (fun (i : Nat) => H) (fun (i : Nat) => obj gxs (.cells ((tsC (marksT k mxs)).take (i * 9) ++ xs.drop (i * 9)).toArray 88 (0, 0)) :: L) (fun (i : Nat) => i ≤ mxs) (fun (i : Nat) => mxs - i) 0 (by omega) ⟨rfl, ⟨(vi (by omega)), trivial⟩⟩ rfl (by simp) ?_
  rintro i hI _ hAg0
  have hk := hI
  refine CJ.seq fun _ hK4 _ => ?_
  refine CJ.seq fun _ hK5 _ => ?_
  refine CJ.region ?_
  refine J.p (PR.move rfl) rfl ?_
  refine J.p (PR.move rfl) rfl ?_
  refine J.p (PR.lenSlice u27 rfl rfl) rfl ?_
  refine J.p (PR.lss rfl rfl) rfl ?_
  refine J.nil ?_
  refine EJ.thenN (hK5 ?_)
  refine CJ.condD rfl (fun hc10 => ?_) (fun hc10 => ?_)
  ·
    refine CJ.skip ?_
    refine EJ.thenN (hK4 ?_)
    refine CJ.seq fun _ hK6 _ => ?_
    refine CJ.block ?_
    refine CJ.seq fun _ hK7 _ => ?_
    refine CJ.seq fun _ hK8 _ => ?_
    refine CJ.region ?_
    refine J.p (PR.assign rfl) rfl ?_
    refine J.nil ?_
    refine EJ.thenN (hK8 ?_)
    refine CJ.block ?_
    refine CJ.loopU (σ := Nat) (fun (j : Nat) => [(6, .int .i64 (j : Int)), (1, .int .i64 (k + 9 * i + j))]) (fun (j : Nat) => H) (fun (j : Nat) => obj gxs (.cells ((tsC (marksT k mxs)).take (i * 9 + j) ++ xs.drop (i * 9 + j)).toArray 88 (0, 0)) :: L) (fun (j : Nat) => j ≤ 8) (fun (j : Nat) => 8 - j) 0 (by omega) ⟨rfl, ⟨(vi (by omega)), trivial⟩⟩ rfl rfl ?_
    rintro j hJ _ hAg1
    have hj := hJ
    refine CJ.seq fun _ hK9 _ => ?_
    refine CJ.seq fun _ hK10 _ => ?_
    refine CJ.region ?_
    refine J.p (PR.move rfl) rfl ?_
    refine J.p (PR.lss rfl rfl) rfl ?_
    refine J.nil ?_
    refine EJ.thenN (hK10 ?_)
    refine CJ.condD rfl (fun hc14 => ?_) (fun hc14 => ?_)
    ·
      refine CJ.skip ?_
      refine EJ.thenN (hK9 ?_)
      refine CJ.seq fun _ hK11 _ => ?_
      refine CJ.block ?_
      refine CJ.seq fun _ hK12 _ => ?_
      refine CJ.region ?_
      refine J.p (PR.move rfl) rfl ?_
      refine J.p (PR.move rfl) rfl ?_
      refine J.p (PR.move rfl) rfl ?_
      refine J.p (PR.move rfl) rfl ?_
      refine J.p (PR.conv u3 u5 rfl rfl) rfl ?_
      refine J.p (PR.idxO u27 sz88 rfl rfl rfl (by omega)) rfl ?_
      refine J.p (PR.fldA u88 rfl sz86 rfl) rfl ?_
      refine J.p (PR.idxB u86 sz5 rfl rfl rfl (by omega)) rfl ?_
      refine J.store rfl rfl rfl rfl sz5 (by show i * 9 + 0 + j < _; simp only [List.length_append, List.length_take, List.length_drop]; omega) .z ?_
      refine J.nil ?_
      refine EJ.thenN (hK12 ?_)
      refine CJ.region ?_
      refine J.p (PR.move rfl) rfl ?_
      refine J.p (PR.add rfl rfl (by first | exact nw _ (by omega) | rfl)) rfl ?_
      refine J.p (PR.assign rfl) rfl ?_
      refine J.nil ?_
      refine EJ.inN ?_
      refine EJ.thenN (hK11 ?_)
      refine CJ.region ?_
      refine J.p (PR.move rfl) rfl ?_
      refine J.p (PR.add rfl rfl (by first | exact nw _ (by omega) | rfl)) rfl ?_
      refine J.p (PR.assign rfl) rfl ?_
      refine J.nil ?_
      refine EJ.thenN ?_
      exact hAg1 (j + 1) (by omega) (by omega) 18 rfl rfl ⟨rfl, ⟨(vi (by omega)), trivial⟩⟩ rfl (by have e := fill_flat (M := tsC (marksT k mxs)) (cs := xs) (p := i * 9 + j) (by omega) (marksTC_byte hn (by omega) (by omega)); rw [show i * 9 + (j + 1) = i * 9 + j + 1 by omega, ← e]; rfl)
    ·
      refine CJ.exit ?_
      refine EJ.thenE ?_
      refine EJ.thenE ?_
      refine EJ.inE ?_
      refine EJ.thenN (hK7 ?_)
      refine CJ.seq fun _ hK13 _ => ?_
      refine CJ.region ?_
      refine J.p (PR.move rfl) rfl ?_
      refine J.p (PR.move rfl) rfl ?_
      refine J.p (PR.move rfl) rfl ?_
      refine J.p (PR.idxO u27 sz88 rfl rfl rfl (by omega)) rfl ?_
      refine J.p (PR.fldA u88 rfl sz2 rfl) rfl ?_
      refine J.store rfl rfl rfl rfl sz2 (by show i * 9 + 8 < _; simp only [List.length_append, List.length_take, List.length_drop]; omega) .z ?_
      refine J.nil ?_
      refine EJ.thenN (hK13 ?_)
      refine CJ.region ?_
      refine J.p (PR.move rfl) rfl ?_
      refine J.p (PR.add rfl rfl (by first | exact nw _ (by omega) | rfl)) rfl ?_
      refine J.p (PR.assign rfl) rfl ?_
      refine J.nil ?_
      refine EJ.inN ?_
      refine EJ.thenN (hK6 ?_)
      refine CJ.region ?_
      refine J.p (PR.move rfl) rfl ?_
      refine J.p (PR.add rfl rfl (by first | exact nw _ (by omega) | rfl)) rfl ?_
      refine J.p (PR.assign rfl) rfl ?_
      refine J.nil ?_
      refine EJ.thenN ?_
      exact hAg0 (i + 1) (by omega) (by omega) 22 rfl rfl ⟨rfl, ⟨(vi (by omega)), trivial⟩⟩ rfl (by have e := fill_flat (M := tsC (marksT k mxs)) (cs := xs) (p := i * 9 + 8) (by omega) (marksTC_fac hn (by omega)); obtain rfl : j = 8 := (by omega); rw [show (i + 1) * 9 = i * 9 + 8 + 1 by omega, ← e, show k + 9 * (i : Int) + ((8 : Nat) : Int) = k + 9 * (i : Int) + 8 by omega]; rfl)
  ·
    refine CJ.exit ?_
    refine EJ.thenE ?_
    refine EJ.thenE ?_
    refine EJ.inE ?_
    refine EJ.thenN (hK2 ?_)
    refine CJ.seq fun _ hK14 _ => ?_
    refine CJ.region ?_
    refine J.p (PR.move rfl) rfl ?_
    refine J.p (PR.assign rfl) rfl ?_
    refine J.nil ?_
    refine EJ.thenN (hK14 ?_)
    refine CJ.ret ?_
    refine EJ.ret1 rfl (Res.tmp rfl) fun w hH => ?_
    obtain rfl : i = mxs := by omega
    rw [List.take_of_length_le (by omega)] at hH
    exact ⟨rfl, hH⟩
set_option maxRecDepth 10000 in
theorem markTermS_0 {B : World} {H0 H : HP} {L : List SA} {w : World} {qxs : Option Addr} {cxs : Nat} {k : Int}   (hH : Hp B H0 H L w) :
    Calls Try.prog 81 [.slice qxs 0 cxs, .int .i64 k].toArray w fun e w' => e = .returned (.int .i64 k) ∧ Hp B H0 H L w' := by
  refine CJ.enter Try.func81 rfl 35 rfl rfl [(0, .slice qxs 0 cxs), (1, .int .i64 k)] rfl hH ?_
  clear hH
  refine CJ.seq fun _ hK1 _ => ?_
  refine CJ.region ?_
  refine J.p (PR.assign rfl) rfl ?_
  refine J.nil ?_
  refine EJ.thenN (hK1 ?_)
  refine CJ.seq fun _ hK2 _ => ?_
  refine CJ.seq fun _ hK3 _ => ?_
  refine CJ.region ?_
  refine J.p (PR.assign rfl) rfl ?_
  refine J.nil ?_
  refine EJ.thenN (hK3 ?_)
  refine CJ.block ?_
  refine CJ.loopU (σ := Unit) (fun (_ : Unit) => [(5, .int .i64 0), (1, .int .i64 k)]) (fun (_ : Unit) => H) (fun (_ : Unit) => L) (fun (_ : Unit) => True) (fun (_ : Unit) => 0) () trivial ⟨rfl, ⟨rfl, trivial⟩⟩ rfl rfl ?_
  rintro _ hI _ hAg0
  refine CJ.seq fun _ hK4 _ => ?_
  refine CJ.seq fun _ hK5 _ => ?_
  refine CJ.region ?_
  refine J.p (PR.move rfl) rfl ?_
  refine J.p (PR.move rfl) rfl ?_
  refine J.p (PR.lenSlice u27 rfl rfl) rfl ?_
  refine J.p (PR.lss rfl rfl) rfl ?_
  refine J.nil ?_
  refine EJ.thenN (hK5 ?_)
  refine CJ.condD rfl (fun hc10 => ?_) (fun hc10 => ?_)
  ·
    exact absurd hc10 (by simp)
  ·
    refine CJ.exit ?_
    refine EJ.thenE ?_
    refine EJ.thenE ?_
    refine EJ.inE ?_
    refine EJ.thenN (hK2 ?_)
    refine CJ.seq fun _ hK6 _ => ?_
    refine CJ.region ?_
    refine J.p (PR.move rfl) rfl ?_
    refine J.p (PR.assign rfl) rfl ?_
    refine J.nil ?_
    refine EJ.thenN (hK6 ?_)
    refine CJ.ret ?_
    refine EJ.ret1 rfl (Res.tmp rfl) fun w hH => ?_
    exact ⟨rfl, hH⟩

theorem markTermS_c {B : World} {H0 H : HP} {L : List SA} {w : World} {q : Option Addr} {c m : Nat} {cells : List Value} {k : Int} (hn : 0 ≤ k ∧ k + 9 * (m : Nat) ≤ 9223372036854775807) (hH : Hp B H0 H (own 88 9 q m c cells :: L) w) :
    Calls Try.prog 81 [.slice q m c, .int .i64 k].toArray w fun e w' => e = .returned (.int .i64 (k + 9 * (m : Nat))) ∧ Hp B H0 H (own 88 9 q m c (tsC (marksT k m)) :: L) w' := by
  refine hH.openOwn (by decide) (fun h1 h2 h3 h4 => ?_) (fun g cs h1 h2 h3 h4 h5 h6 hG => ?_)
  · subst h1 h2 h3 h4
    refine (markTermS_0 hH).mono ?_
    rintro _ w ⟨rfl, h⟩
    exact ⟨by simp, h⟩
  · subst h1
    refine (markTermS_s (xs := cs) (by omega) hn hG).mono ?_
    rintro _ w ⟨rfl, h⟩
    have hl : (tsC (marksT k m)).length = m * 9 := by rw [tsC_length (marksT_wfs hn), marksT_length]
    exact ⟨rfl, h.shutOwn (by simp only [List.length_append, List.length_drop]; omega) h4 h5 (by rw [List.take_append_of_le_length (by omega), List.take_of_length_le (by omega)])⟩

set_option maxHeartbeats 1000000 in
set_option maxRecDepth 10000 in
theorem heldTermS_c {B : World} {H0 H : HP} {L : List SA} {w : World} {qxs : Option Addr} {cxs xs : Nat} {kxs : Int}   (hxs : MTerms H qxs kxs xs) (hn : 0 ≤ kxs ∧ kxs + 9 * (xs : Nat) ≤ 9223372036854775807) (hH : Hp B H0 H L w) :
    Calls Try.prog 82 [.slice qxs xs cxs, .int .i64 kxs].toArray w fun e w' => e = .returned (.int .i64 (kxs + 9 * (xs : Nat))) ∧ Hp B H0 H L w' := by
  refine CJ.enter Try.func82 rfl 39 rfl rfl [(0, .slice qxs xs cxs), (1, .int .i64 kxs)] rfl hH ?_
  clear hH
  refine CJ.seq fun _ hK1 _ => ?_
  refine CJ.region ?_
  refine J.p (PR.assign rfl) rfl ?_
  refine J.nil ?_
  refine EJ.thenN (hK1 ?_)
  refine CJ.seq fun _ hK2 _ => ?_
  refine CJ.seq fun _ hK3 _ => ?_
  refine CJ.region ?_
  refine J.p (PR.assign rfl) rfl ?_
  refine J.nil ?_
  refine EJ.thenN (hK3 ?_)
  refine CJ.block ?_
  refine CJ.loopU (σ := Nat) (fun (i : Nat) => [(5, .int .i64 (i : Int)), (1, .int .i64 (kxs + 9 * (i : Nat)))]) (fun (i : Nat) => H) (fun (i : Nat) => L) (fun (i : Nat) => i ≤ xs) (fun (i : Nat) => xs - i) 0 (by omega) ⟨rfl, ⟨(vi (by omega)), trivial⟩⟩ rfl rfl ?_
  rintro i hI _ hAg0
  have hk := hI
  refine CJ.seq fun _ hK4 _ => ?_
  refine CJ.seq fun _ hK5 _ => ?_
  refine CJ.region ?_
  refine J.p (PR.move rfl) rfl ?_
  refine J.p (PR.move rfl) rfl ?_
  refine J.p (PR.lenSlice u27 rfl rfl) rfl ?_
  refine J.p (PR.lss rfl rfl) rfl ?_
  refine J.nil ?_
  refine EJ.thenN (hK5 ?_)
  refine CJ.condD rfl (fun hc10 => ?_) (fun hc10 => ?_)
  ·
    refine CJ.skip ?_
    refine EJ.thenN (hK4 ?_)
    refine CJ.seq fun _ hK6 _ => ?_
    refine CJ.block ?_
    refine CJ.seq fun _ hK7 _ => ?_
    refine CJ.seq fun _ hK8 _ => ?_
    refine CJ.region ?_
    refine J.p (PR.assign rfl) rfl ?_
    refine J.nil ?_
    refine EJ.thenN (hK8 ?_)
    refine CJ.block ?_
    refine CJ.loopU (σ := Nat) (fun (j : Nat) => [(6, .int .i64 (j : Int)), (1, .int .i64 (kxs + 9 * (i : Nat) + (j : Nat)))]) (fun (j : Nat) => H) (fun (j : Nat) => L) (fun (j : Nat) => j ≤ 8) (fun (j : Nat) => 8 - j) 0 (by omega) ⟨rfl, ⟨(vi (by omega)), trivial⟩⟩ rfl rfl ?_
    rintro j hJ _ hAg1
    have hj := hJ
    refine CJ.seq fun _ hK9 _ => ?_
    refine CJ.seq fun _ hK10 _ => ?_
    refine CJ.region ?_
    refine J.p (PR.move rfl) rfl ?_
    refine J.p (PR.lss rfl rfl) rfl ?_
    refine J.nil ?_
    refine EJ.thenN (hK10 ?_)
    refine CJ.condD rfl (fun hc14 => ?_) (fun hc14 => ?_)
    ·
      refine CJ.skip ?_
      refine EJ.thenN (hK9 ?_)
      refine CJ.seq fun _ hK11 _ => ?_
      refine CJ.block ?_
      refine CJ.seq fun _ hK12 _ => ?_
      refine CJ.seq fun _ hK13 _ => ?_
      refine CJ.region ?_
      refine J.p (PR.move rfl) rfl ?_
      refine J.p (PR.move rfl) rfl ?_
      refine J.p (PR.move rfl) rfl ?_
      refine J.p (PR.idx u27 sz88 rfl rfl rfl (by omega) hxs.sm) rfl ?_
      refine J.p (PR.fldP u88 rfl sz86 rfl (hxs.sm (i := i) (by omega))) rfl ?_
      refine J.p (PR.idxP1 u86 sz5 rfl (hxs.sm (i := i) (by omega)) rfl rfl (by omega)) rfl ?_
      refine J.p (PR.loadH rfl (hxs.byte _ (by omega) _ (by omega)) pl5) rfl ?_
      refine J.p (PR.move rfl) rfl ?_
      refine J.p (PR.conv u3 u5 rfl rfl) rfl ?_
      refine J.p (PR.neq rfl rfl) rfl ?_
      refine J.nil ?_
      refine EJ.thenN (hK13 ?_)
      refine CJ.condD rfl (fun hc26 => ?_) (fun hc26 => ?_)
      ·
        refine CJ.seq fun _ hK14 _ => ?_
        refine CJ.region ?_
        refine J.p (PR.assign rfl) rfl ?_
        refine J.nil ?_
        refine EJ.thenN (hK14 ?_)
        refine CJ.ret ?_
        refine EJ.thenR ?_
        refine EJ.inR ?_
        refine EJ.thenR ?_
        refine EJ.thenR ?_
        refine EJ.inR ?_
        refine EJ.thenR ?_
        refine EJ.inR ?_
        refine EJ.thenR ?_
        refine EJ.thenR ?_
        refine EJ.inR ?_
        refine EJ.thenR ?_
        refine EJ.ret1 rfl (Res.tmp rfl) fun w hH => ?_
        exact absurd rfl hc26
      ·
        refine CJ.skip ?_
        refine EJ.thenN (hK12 ?_)
        refine CJ.region ?_
        refine J.p (PR.move rfl) rfl ?_
        refine J.p (PR.add rfl rfl (by first | exact nw _ (by omega) | rfl)) rfl ?_
        refine J.p (PR.assign rfl) rfl ?_
        refine J.nil ?_
        refine EJ.inN ?_
        refine EJ.thenN (hK11 ?_)
        refine CJ.region ?_
        refine J.p (PR.move rfl) rfl ?_
        refine J.p (PR.add rfl rfl (by first | exact nw _ (by omega) | rfl)) rfl ?_
        refine J.p (PR.assign rfl) rfl ?_
        refine J.nil ?_
        refine EJ.thenN ?_
        exact hAg1 (j + 1) (by omega) (by omega) 20 rfl rfl ⟨rfl, ⟨(vi (by omega)), trivial⟩⟩ rfl rfl
    ·
      refine CJ.exit ?_
      refine EJ.thenE ?_
      refine EJ.thenE ?_
      refine EJ.inE ?_
      refine EJ.thenN (hK7 ?_)
      refine CJ.seq fun _ hK15 _ => ?_
      refine CJ.seq fun _ hK16 _ => ?_
      refine CJ.region ?_
      refine J.p (PR.move rfl) rfl ?_
      refine J.p (PR.move rfl) rfl ?_
      refine J.p (PR.idx u27 sz88 rfl rfl rfl (by omega) hxs.sm) rfl ?_
      refine J.p (PR.fldP u88 rfl sz2 rfl (hxs.sm (i := i) (by omega))) rfl ?_
      refine J.p (PR.loadH rfl (hxs.fac _ (by omega)) pl2) rfl ?_
      refine J.p (PR.move rfl) rfl ?_
      refine J.p (PR.neq rfl rfl) rfl ?_
      refine J.nil ?_
      refine EJ.thenN (hK16 ?_)
      refine CJ.condD rfl (fun hc35 => ?_) (fun hc35 => ?_)
      ·
        refine CJ.seq fun _ hK17 _ => ?_
        refine CJ.region ?_
        refine J.p (PR.assign rfl) rfl ?_
        refine J.nil ?_
        refine EJ.thenN (hK17 ?_)
        refine CJ.ret ?_
        refine EJ.thenR ?_
        refine EJ.inR ?_
        refine EJ.thenR ?_
        refine EJ.thenR ?_
        refine EJ.inR ?_
        refine EJ.thenR ?_
        refine EJ.ret1 rfl (Res.tmp rfl) fun w hH => ?_
        exact absurd (by obtain rfl : j = 8 := (by omega); rfl) hc35
      ·
        refine CJ.skip ?_
        refine EJ.thenN (hK15 ?_)
        refine CJ.region ?_
        refine J.p (PR.move rfl) rfl ?_
        refine J.p (PR.add rfl rfl (by first | exact nw _ (by omega) | rfl)) rfl ?_
        refine J.p (PR.assign rfl) rfl ?_
        refine J.nil ?_
        refine EJ.inN ?_
        refine EJ.thenN (hK6 ?_)
        refine CJ.region ?_
        refine J.p (PR.move rfl) rfl ?_
        refine J.p (PR.add rfl rfl (by first | exact nw _ (by omega) | rfl)) rfl ?_
        refine J.p (PR.assign rfl) rfl ?_
        refine J.nil ?_
        refine EJ.thenN ?_
        exact hAg0 (i + 1) (by omega) (by omega) 24 rfl rfl ⟨rfl, ⟨(vi (by omega)), trivial⟩⟩ rfl rfl
  ·
    refine CJ.exit ?_
    refine EJ.thenE ?_
    refine EJ.thenE ?_
    refine EJ.inE ?_
    refine EJ.thenN (hK2 ?_)
    refine CJ.seq fun _ hK18 _ => ?_
    refine CJ.region ?_
    refine J.p (PR.move rfl) rfl ?_
    refine J.p (PR.assign rfl) rfl ?_
    refine J.nil ?_
    refine EJ.thenN (hK18 ?_)
    refine CJ.ret ?_
    refine EJ.ret1 rfl (Res.tmp rfl) fun w hH => ?_
    obtain rfl : i = xs := by omega
    exact ⟨rfl, hH⟩
set_option maxRecDepth 10000 in
theorem markForm_c {B : World} {H0 H : HP} {L : List SA} {w : World} {qf : Option Addr} {mf cf : Nat} {cellsf : List Value} {k : Int}  (hn : 0 ≤ k ∧ k + 9 * (mf : Nat) ≤ 9223372036854775807) (hH : Hp B H0 H (own 88 9 qf mf cf cellsf :: L) w) :
    Calls Try.prog 26 [.agg [.slice qf mf cf].toArray, .int .i64 k].toArray w fun e w' => e = .returned (.int .i64 (k + 9 * (mf : Nat))) ∧ Hp B H0 H (own 88 9 qf mf cf (tsC (marksT k mf)) :: L) w' := by
  refine CJ.enter Try.func26 rfl 10 rfl rfl [(0, .agg [.slice qf mf cf].toArray), (1, .int .i64 k)] rfl hH ?_
  clear hH
  refine CJ.seq fun _ hK1 _ => ?_
  refine CJ.region ?_
  refine J.box rfl rfl rfl fun g2 => ?_
  refine J.p (PR.assign rfl) rfl ?_
  refine J.nil ?_
  refine EJ.thenN (hK1 ?_)
  refine CJ.seq fun _ hK2 _ => ?_
  refine CJ.region ?_
  refine J.p (PR.fldA u29 rfl sz27 rfl) rfl ?_
  refine J.p (PR.load rfl At.z rfl pl27) rfl ?_
  refine J.p (PR.move rfl) rfl ?_
  refine J.call fn81 rfl rfl fun w hH => (markTermS_c hn (hH.front (.s .z))).mono ?_
  rintro _ w ⟨rfl, hH⟩
  refine ⟨_, rfl, fun a hF => J.of hF hH ?_⟩
  refine J.p (PR.assign rfl) rfl ?_
  refine J.nil ?_
  refine EJ.thenN (hK2 ?_)
  refine CJ.seq fun _ hK3 _ => ?_
  refine CJ.region ?_
  refine J.p (PR.move rfl) rfl ?_
  refine J.p (PR.assign rfl) rfl ?_
  refine J.nil ?_
  refine EJ.thenN (hK3 ?_)
  refine CJ.ret ?_
  refine EJ.ret1 rfl (Res.tmp rfl) fun w hH => ?_
  replace hH := hH.sublist (.cons_cons _ (.cons _ (List.Sublist.refl _)))
  exact ⟨rfl, hH⟩
set_option maxRecDepth 10000 in
theorem heldForm_c {B : World} {H0 H : HP} {L : List SA} {w : World} {qxs : Option Addr} {cxs xs : Nat} {kxs : Int}   (hxs : MTerms H qxs kxs xs) (hn : 0 ≤ kxs ∧ kxs + 9 * (xs : Nat) ≤ 9223372036854775807) (hH : Hp B H0 H L w) :
    Calls Try.prog 27 [.agg [.slice qxs xs cxs].toArray, .int .i64 kxs].toArray w fun e w' => e = .returned (.int .i64 (kxs + 9 * (xs : Nat))) ∧ Hp B H0 H L w' := by
  refine CJ.enter Try.func27 rfl 12 rfl rfl [(0, .agg [.slice qxs xs cxs].toArray), (1, .int .i64 kxs)] rfl hH ?_
  clear hH
  refine CJ.seq fun _ hK1 _ => ?_
  refine CJ.region ?_
  refine J.box rfl rfl rfl fun g2 => ?_
  refine J.p (PR.assign rfl) rfl ?_
  refine J.nil ?_
  refine EJ.thenN (hK1 ?_)
  refine CJ.seq fun _ hK2 _ => ?_
  refine CJ.region ?_
  refine J.p (PR.fldA u29 rfl sz27 rfl) rfl ?_
  refine J.p (PR.load rfl At.z rfl pl27) rfl ?_
  refine J.p (PR.move rfl) rfl ?_
  refine J.call fn82 rfl rfl fun w hH => (heldTermS_c hxs hn hH).mono ?_
  rintro _ w ⟨rfl, hH⟩
  refine ⟨_, rfl, fun a hF => J.of hF hH ?_⟩
  refine J.p (PR.assign rfl) rfl ?_
  refine J.nil ?_
  refine EJ.thenN (hK2 ?_)
  refine CJ.seq fun _ hK3 _ => ?_
  refine CJ.seq fun _ hK4 _ => ?_
  refine CJ.region ?_
  refine J.p (PR.move rfl) rfl ?_
  refine J.p (PR.lss rfl rfl) rfl ?_
  refine J.nil ?_
  refine EJ.thenN (hK4 ?_)
  refine CJ.condD rfl (fun hc10 => ?_) (fun hc10 => ?_)
  ·
    refine CJ.seq fun _ hK5 _ => ?_
    refine CJ.region ?_
    refine J.p (PR.assign rfl) rfl ?_
    refine J.nil ?_
    refine EJ.thenN (hK5 ?_)
    refine CJ.ret ?_
    refine EJ.thenR ?_
    refine EJ.ret1 rfl (Res.tmp rfl) fun w hH => ?_
    replace hH := hH.tail
    omega
  ·
    refine CJ.skip ?_
    refine EJ.thenN (hK3 ?_)
    refine CJ.seq fun _ hK6 _ => ?_
    refine CJ.region ?_
    refine J.p (PR.move rfl) rfl ?_
    refine J.p (PR.assign rfl) rfl ?_
    refine J.nil ?_
    refine EJ.thenN (hK6 ?_)
    refine CJ.ret ?_
    refine EJ.ret1 rfl (Res.tmp rfl) fun w hH => ?_
    replace hH := hH.tail
    exact ⟨rfl, hH⟩
end Go.Proofs.Ytpojpokldncglaa.G
