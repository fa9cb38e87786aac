/- The walks: what each Go function does, shown from its text. No condition. -/
import Derived.Test.YtpojpokldncglaaGAlg
import Derived.Test.YtpojpokldncglaaProg
import Derived.Test.YtpojpokldncglaaWa
import Derived.Test.YtpojpokldncglaaWb
import Derived.Test.YtpojpokldncglaaWc
import Derived.Test.YtpojpokldncglaaWd
import Derived.Test.YtpojpokldncglaaWe
import Derived.Test.YtpojpokldncglaaWf
set_option linter.unusedVariables false
set_option linter.unusedSimpArgs false
namespace Go.Proofs.Ytpojpokldncglaa.G
open Go Go.RowKit
namespace Wg
theorem u2 : Try.prog.underlying 2 = some (TypeDesc.int .i64) := by kernel_rfl
theorem u22 : Try.prog.underlying 22 = some (TypeDesc.slice 2) := by kernel_rfl
theorem sz2 : Size Try.prog 2 1 := by unfold Size; kernel_rfl
theorem pl2 : Plain Try.prog 2 := ⟨_, u2, rfl⟩
end Wg
open Wg
set_option maxRecDepth 10000 in
theorem markInt64S_s {B : World} {H0 H : HP} {L : List SA} {w : World} {gxs mxs cxs : Nat} {xs : List Value} {k : Int}  (hm : mxs ≤ xs.length) (hn : 0 ≤ k ∧ k + mxs ≤ 9223372036854775807) (hH : Hp B H0 H (obj gxs (.cells xs.toArray 2 (0, 0)) :: L) w) :
    Calls Try.prog 25 [.slice (some ⟨gxs, 0, none⟩) mxs cxs, .int .i64 k].toArray w fun e w' => e = .returned (.int .i64 (k + mxs)) ∧ Hp B H0 H (obj gxs (.cells (intsC (marks k mxs) ++ xs.drop mxs).toArray 2 (0, 0)) :: L) w' := by
  refine CJ.enter Try.func25 rfl 19 rfl rfl [(0, .slice (some ⟨gxs, 0, none⟩) mxs cxs), (1, .int .i64 k)] rfl hH ?_
  clear hH
  refine CJ.seq fun _ hK1 _ => ?_
  refine CJ.region ?_
  refine J.p (PR.assign rfl) rfl ?_
  refine J.nil ?_
  refine EJ.thenN (hK1 ?_)
  refine CJ.seq fun _ hK2 _ => ?_
  refine CJ.seq fun _ hK3 _ => ?_
  refine CJ.region ?_
  refine J.p (PR.assign rfl) rfl ?_
  refine J.nil ?_
  refine EJ.thenN (hK3 ?_)
  refine CJ.block ?_
  refine CJ.loopU (σ := Nat) (fun (i : Nat) => [(5, .int .i64 (i : Int)), (1, .int .i64 (k + i))]) (fun (i : Nat) => H) (fun (i : Nat) => obj gxs (.cells ((intsC (marks k mxs)).take i ++ xs.drop i).toArray 2 (0, 0)) :: L) (fun (i : Nat) => i ≤ mxs) (fun (i : Nat) => mxs - i) 0 (by omega) ⟨rfl, ⟨(vi (by omega)), trivial⟩⟩ rfl (by simp) ?_
  rintro i hI _ hAg0
  have hk := hI
  refine CJ.seq fun _ hK4 _ => ?_
  refine CJ.seq fun _ hK5 _ => ?_
  refine CJ.region ?_
  refine J.p (PR.move rfl) rfl ?_
  refine J.p (PR.move rfl) rfl ?_
  refine J.p (PR.lenSlice u22 rfl rfl) rfl ?_
  refine J.p (PR.lss rfl rfl) rfl ?_
  refine J.nil ?_
  refine EJ.thenN (hK5 ?_)
  refine CJ.condD rfl (fun hc9 => ?_) (fun hc9 => ?_)
  ·
    refine CJ.skip ?_
    refine EJ.thenN (hK4 ?_)
    refine CJ.seq fun _ hK6 _ => ?_
    refine CJ.block ?_
    refine CJ.seq fun _ hK7 _ => ?_
    refine CJ.region ?_
    refine J.p (PR.move rfl) rfl ?_
    refine J.p (PR.move rfl) rfl ?_
    refine J.p (PR.move rfl) rfl ?_
    refine J.p (PR.idxO1 u22 sz2 rfl rfl rfl (by omega)) rfl ?_
    refine J.store rfl rfl rfl rfl sz2 (by simp; omega) .z ?_
    refine J.nil ?_
    refine EJ.thenN (hK7 ?_)
    refine CJ.region ?_
    refine J.p (PR.move rfl) rfl ?_
    refine J.p (PR.add rfl rfl (by first | exact nw _ (by omega) | rfl)) rfl ?_
    refine J.p (PR.assign rfl) rfl ?_
    refine J.nil ?_
    refine EJ.inN ?_
    refine EJ.thenN (hK6 ?_)
    refine CJ.region ?_
    refine J.p (PR.move rfl) rfl ?_
    refine J.p (PR.add rfl rfl (by first | exact nw _ (by omega) | rfl)) rfl ?_
    refine J.p (PR.assign rfl) rfl ?_
    refine J.nil ?_
    refine EJ.thenN ?_
    exact hAg0 (i + 1) (by omega) (by omega) 16 rfl rfl ⟨rfl, ⟨(vi (by omega)), trivial⟩⟩ rfl (by rw [← fill_flat (by omega) (marksC_get (by omega))])
  ·
    refine CJ.exit ?_
    refine EJ.thenE ?_
    refine EJ.thenE ?_
    refine EJ.inE ?_
    refine EJ.thenN (hK2 ?_)
    refine CJ.seq fun _ hK8 _ => ?_
    refine CJ.region ?_
    refine J.p (PR.move rfl) rfl ?_
    refine J.p (PR.assign rfl) rfl ?_
    refine J.nil ?_
    refine EJ.thenN (hK8 ?_)
    refine CJ.ret ?_
    refine EJ.ret1 rfl (Res.tmp rfl) fun w hH => ?_
    obtain rfl : i = mxs := by omega
    exact ⟨rfl, by simpa [List.take_of_length_le] using hH⟩
set_option maxRecDepth 10000 in
theorem markInt64S_0 {B : World} {H0 H : HP} {L : List SA} {w : World} {qxs : Option Addr} {cxs : Nat} {k : Int}   (hH : Hp B H0 H L w) :
    Calls Try.prog 25 [.slice qxs 0 cxs, .int .i64 k].toArray w fun e w' => e = .returned (.int .i64 k) ∧ Hp B H0 H L w' := by
  refine CJ.enter Try.func25 rfl 19 rfl rfl [(0, .slice qxs 0 cxs), (1, .int .i64 k)] rfl hH ?_
  clear hH
  refine CJ.seq fun _ hK1 _ => ?_
  refine CJ.region ?_
  refine J.p (PR.assign rfl) rfl ?_
  refine J.nil ?_
  refine EJ.thenN (hK1 ?_)
  refine CJ.seq fun _ hK2 _ => ?_
  refine CJ.seq fun _ hK3 _ => ?_
  refine CJ.region ?_
  refine J.p (PR.assign rfl) rfl ?_
  refine J.nil ?_
  refine EJ.thenN (hK3 ?_)
  refine CJ.block ?_
  refine CJ.loopU (σ := Unit) (fun (_ : Unit) => [(5, .int .i64 0), (1, .int .i64 k)]) (fun (_ : Unit) => H) (fun (_ : Unit) => L) (fun (_ : Unit) => True) (fun (_ : Unit) => 0) () trivial ⟨rfl, ⟨rfl, trivial⟩⟩ rfl rfl ?_
  rintro _ hI _ hAg0
  refine CJ.seq fun _ hK4 _ => ?_
  refine CJ.seq fun _ hK5 _ => ?_
  refine CJ.region ?_
  refine J.p (PR.move rfl) rfl ?_
  refine J.p (PR.move rfl) rfl ?_
  refine J.p (PR.lenSlice u22 rfl rfl) rfl ?_
  refine J.p (PR.lss rfl rfl) rfl ?_
  refine J.nil ?_
  refine EJ.thenN (hK5 ?_)
  refine CJ.condD rfl (fun hc9 => ?_) (fun hc9 => ?_)
  ·
    exact absurd hc9 (by simp)
  ·
    refine CJ.exit ?_
    refine EJ.thenE ?_
    refine EJ.thenE ?_
    refine EJ.inE ?_
    refine EJ.thenN (hK2 ?_)
    refine CJ.seq fun _ hK6 _ => ?_
    refine CJ.region ?_
    refine J.p (PR.move rfl) rfl ?_
    refine J.p (PR.assign rfl) rfl ?_
    refine J.nil ?_
    refine EJ.thenN (hK6 ?_)
    refine CJ.ret ?_
    refine EJ.ret1 rfl (Res.tmp rfl) fun w hH => ?_
    exact ⟨rfl, hH⟩

theorem markInt64S_c {B : World} {H0 H : HP} {L : List SA} {w : World} {q : Option Addr} {c m : Nat} {cells : List Value} {k : Int} (hn : 0 ≤ k ∧ k + m ≤ 9223372036854775807) (hH : Hp B H0 H (own 2 1 q m c cells :: L) w) :
    Calls Try.prog 25 [.slice q m c, .int .i64 k].toArray w fun e w' => e = .returned (.int .i64 (k + m)) ∧ Hp B H0 H (own 2 1 q m c (intsC (marks k m)) :: L) w' := by
  refine hH.openOwn (by decide) (fun h1 h2 h3 h4 => ?_) (fun g cs h1 h2 h3 h4 h5 h6 hG => ?_)
  · subst h1 h2 h3 h4
    refine (markInt64S_0 hH).mono ?_
    rintro _ w ⟨rfl, h⟩
    exact ⟨by simp, h⟩
  · subst h1
    refine (markInt64S_s (xs := cs) (by omega) hn hG).mono ?_
    rintro _ w ⟨rfl, h⟩
    exact ⟨rfl, h.shutOwn (by simp; omega) h4 h5 (by rw [Nat.mul_one, List.take_append_of_le_length (by simp), List.take_of_length_le (by simp)])⟩

set_option maxRecDepth 10000 in
theorem heldInt64S_c {B : World} {H0 H : HP} {L : List SA} {w : World} {qxs : Option Addr} {cxs xs : Nat} {kxs : Int}   (hxs : MInts H qxs kxs xs) (hn : 0 ≤ kxs ∧ kxs + xs ≤ 9223372036854775807) (hH : Hp B H0 H L w) :
    Calls Try.prog 45 [.slice qxs xs cxs, .int .i64 kxs].toArray w fun e w' => e = .returned (.int .i64 (kxs + xs)) ∧ Hp B H0 H L w' := by
  refine CJ.enter Try.func45 rfl 21 rfl rfl [(0, .slice qxs xs cxs), (1, .int .i64 kxs)] rfl hH ?_
  clear hH
  refine CJ.seq fun _ hK1 _ => ?_
  refine CJ.region ?_
  refine J.p (PR.assign rfl) rfl ?_
  refine J.nil ?_
  refine EJ.thenN (hK1 ?_)
  refine CJ.seq fun _ hK2 _ => ?_
  refine CJ.seq fun _ hK3 _ => ?_
  refine CJ.region ?_
  refine J.p (PR.assign rfl) rfl ?_
  refine J.nil ?_
  refine EJ.thenN (hK3 ?_)
  refine CJ.block ?_
  refine CJ.loopU (σ := Nat) (fun (i : Nat) => [(5, .int .i64 (i : Int)), (1, .int .i64 (kxs + i))]) (fun (i : Nat) => H) (fun (i : Nat) => L) (fun (i : Nat) => i ≤ xs) (fun (i : Nat) => xs - i) 0 (by omega) ⟨rfl, ⟨(vi (by omega)), trivial⟩⟩ rfl rfl ?_
  rintro i hI _ hAg0
  have hk := hI
  refine CJ.seq fun _ hK4 _ => ?_
  refine CJ.seq fun _ hK5 _ => ?_
  refine CJ.region ?_
  refine J.p (PR.move rfl) rfl ?_
  refine J.p (PR.move rfl) rfl ?_
  refine J.p (PR.lenSlice u22 rfl rfl) rfl ?_
  refine J.p (PR.lss rfl rfl) rfl ?_
  refine J.nil ?_
  refine EJ.thenN (hK5 ?_)
  refine CJ.condD rfl (fun hc9 => ?_) (fun hc9 => ?_)
  ·
    refine CJ.skip ?_
    refine EJ.thenN (hK4 ?_)
    refine CJ.seq fun _ hK6 _ => ?_
    refine CJ.block ?_
    refine CJ.seq fun _ hK7 _ => ?_
    refine CJ.seq fun _ hK8 _ => ?_
    refine CJ.region ?_
    refine J.p (PR.move rfl) rfl ?_
    refine J.p (PR.move rfl) rfl ?_
    refine J.p (PR.idx1 u22 sz2 rfl rfl rfl (by omega) hxs.sm) rfl ?_
    refine J.p (PR.loadH rfl (hxs _ (by omega)) pl2) rfl ?_
    refine J.p (PR.move rfl) rfl ?_
    refine J.p (PR.neq rfl rfl) rfl ?_
    refine J.nil ?_
    refine EJ.thenN (hK8 ?_)
    refine CJ.condD rfl (fun hc17 => ?_) (fun hc17 => ?_)
    ·
      refine CJ.seq fun _ hK9 _ => ?_
      refine CJ.region ?_
      refine J.p (PR.assign rfl) rfl ?_
      refine J.nil ?_
      refine EJ.thenN (hK9 ?_)
      refine CJ.ret ?_
      refine EJ.thenR ?_
      refine EJ.inR ?_
      refine EJ.thenR ?_
      refine EJ.thenR ?_
      refine EJ.inR ?_
      refine EJ.thenR ?_
      refine EJ.ret1 rfl (Res.tmp rfl) fun w hH => ?_
      exact absurd rfl hc17
    ·
      refine CJ.skip ?_
      refine EJ.thenN (hK7 ?_)
      refine CJ.region ?_
      refine J.p (PR.move rfl) rfl ?_
      refine J.p (PR.add rfl rfl (by first | exact nw _ (by omega) | rfl)) rfl ?_
      refine J.p (PR.assign rfl) rfl ?_
      refine J.nil ?_
      refine EJ.inN ?_
      refine EJ.thenN (hK6 ?_)
      refine CJ.region ?_
      refine J.p (PR.move rfl) rfl ?_
      refine J.p (PR.add rfl rfl (by first | exact nw _ (by omega) | rfl)) rfl ?_
      refine J.p (PR.assign rfl) rfl ?_
      refine J.nil ?_
      refine EJ.thenN ?_
      exact hAg0 (i + 1) (by omega) (by omega) 18 rfl rfl ⟨rfl, ⟨(vi (by omega)), trivial⟩⟩ rfl rfl
  ·
    refine CJ.exit ?_
    refine EJ.thenE ?_
    refine EJ.thenE ?_
    refine EJ.inE ?_
    refine EJ.thenN (hK2 ?_)
    refine CJ.seq fun _ hK10 _ => ?_
    refine CJ.region ?_
    refine J.p (PR.move rfl) rfl ?_
    refine J.p (PR.assign rfl) rfl ?_
    refine J.nil ?_
    refine EJ.thenN (hK10 ?_)
    refine CJ.ret ?_
    refine EJ.ret1 rfl (Res.tmp rfl) fun w hH => ?_
    obtain rfl : i = xs := by omega
    exact ⟨rfl, hH⟩
end Go.Proofs.Ytpojpokldncglaa.G
