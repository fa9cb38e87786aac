/- The walks: what each Go function does, shown from its text. No condition. -/
import Derived.Test.YtpojpokldncglaaGAlg
import Derived.Test.YtpojpokldncglaaProg
import Derived.Test.YtpojpokldncglaaWa
import Derived.Test.YtpojpokldncglaaWb
import Derived.Test.YtpojpokldncglaaWc
import Derived.Test.YtpojpokldncglaaWd
import Derived.Test.YtpojpokldncglaaWe
import Derived.Test.YtpojpokldncglaaWf
import Derived.Test.YtpojpokldncglaaWg
import Derived.Test.YtpojpokldncglaaWh
import Derived.Test.YtpojpokldncglaaWi
set_option linter.unusedVariables false
set_option linter.unusedSimpArgs false
namespace Go.Proofs.Ytpojpokldncglaa.G
open Go Go.RowKit
namespace Wj
theorem u22 : Try.prog.underlying 22 = some (TypeDesc.slice 2) := by kernel_rfl
theorem u27 : Try.prog.underlying 27 = some (TypeDesc.slice 88) := by kernel_rfl
theorem u29 : Try.prog.underlying 29 = some (TypeDesc.struct #[{ name := "Terms", type := 27, offset := 0, embedded := false, tag := "", pkgPath := "", byteOffset := 0 }]) := by kernel_rfl
theorem u39 : Try.prog.underlying 39 = some (TypeDesc.slice 29) := by kernel_rfl
theorem u41 : Try.prog.underlying 41 = some (TypeDesc.struct #[{ name := "Degrees", type := 22, offset := 0, embedded := false, tag := "", pkgPath := "", byteOffset := 0 }, { name := "Images", type := 39, offset := 1, embedded := false, tag := "", pkgPath := "", byteOffset := 24 }]) := by kernel_rfl
theorem sz22 : Size Try.prog 22 1 := by unfold Size; kernel_rfl
theorem sz27 : Size Try.prog 27 1 := by unfold Size; kernel_rfl
theorem sz29 : Size Try.prog 29 1 := by unfold Size; kernel_rfl
theorem sz39 : Size Try.prog 39 1 := by unfold Size; kernel_rfl
theorem pl22 : Plain Try.prog 22 := ⟨_, u22, rfl⟩
theorem pl27 : Plain Try.prog 27 := ⟨_, u27, rfl⟩
theorem pl39 : Plain Try.prog 39 := ⟨_, u39, rfl⟩
theorem ag29 : Agg Try.prog 29 1 := ⟨_, u29, rfl, by kernel_rfl⟩
theorem fn23 : Fn Try.prog 23 := ⟨_, Try.func23, by kernel_rfl, rfl⟩
theorem fn24 : Fn Try.prog 24 := ⟨_, Try.func24, by kernel_rfl, rfl⟩
theorem fn25 : Fn Try.prog 25 := ⟨_, Try.func25, by kernel_rfl, rfl⟩
theorem fn45 : Fn Try.prog 45 := ⟨_, Try.func45, by kernel_rfl, rfl⟩
theorem fn55 : Fn Try.prog 55 := ⟨_, Try.func55, by kernel_rfl, rfl⟩
theorem fn56 : Fn Try.prog 56 := ⟨_, Try.func56, by kernel_rfl, rfl⟩
theorem fn57 : Fn Try.prog 57 := ⟨_, Try.func57, by kernel_rfl, rfl⟩
theorem fn81 : Fn Try.prog 81 := ⟨_, Try.func81, by kernel_rfl, rfl⟩
theorem fn82 : Fn Try.prog 82 := ⟨_, Try.func82, by kernel_rfl, rfl⟩
theorem foll0 : Try.prog.follows .mixedOrders = true := by kernel_rfl
end Wj
open Wj
set_option maxRecDepth 10000 in
theorem markFormS_s {B : World} {H0 H : HP} {L : List SA} {w : World} {qfs : Option Addr} {cfs : Nat} {vs : Vs} {fs : List (List Term)} {k : Int}  (hn : 0 ≤ k ∧ k + 9 * (tot fs : Nat) ≤ 9223372036854775807) (hl : fs.length ≤ 9223372036854775807) (hq : 0 < fs.length → qfs.isSome = true) (hH : Hp B H0 H (emp :: ownTs 88 vs fs :: own 29 1 qfs fs.length cfs (slicesC vs fs) :: L) w) :
    Calls Try.prog 56 [.slice qfs fs.length cfs, .int .i64 k].toArray w fun e w' => e = .returned (.int .i64 (k + 9 * (tot fs : Nat))) ∧ Hp B H0 H (ownTs 88 vs (marksFs k fs) :: own 29 1 qfs fs.length cfs (slicesC vs fs) :: L) w' := by
  refine CJ.enter Try.func56 rfl 20 rfl rfl [(0, .slice qfs fs.length cfs), (1, .int .i64 k)] rfl hH ?_
  clear hH
  refine CJ.seq fun _ hK1 _ => ?_
  refine CJ.region ?_
  refine J.p (PR.assign rfl) rfl ?_
  refine J.nil ?_
  refine EJ.thenN (hK1 ?_)
  refine CJ.seq fun _ hK2 _ => ?_
  refine CJ.seq fun _ hK3 _ => ?_
  refine CJ.region ?_
  refine J.p (PR.assign rfl) rfl ?_
  refine J.nil ?_
  refine EJ.thenN (hK3 ?_)
  refine CJ.block ?_
  refine CJ.loopU (σ := Nat) (fun (i : Nat) => [(5, .int .i64 (i : Int)), (1, .int .i64 (k + 9 * (tot (fs.take i) : Nat)))]) (fun (i : Nat) => H) (fun (i : Nat) => ownTs 88 vs (marksFs k (fs.take i)) :: ownTs 88 (vs.dr i) (fs.drop i) :: own 29 1 qfs fs.length cfs (slicesC vs fs) :: L) (fun (i : Nat) => i ≤ fs.length) (fun (i : Nat) => fs.length - i) 0 (by omega) ⟨rfl, ⟨(vi (by simp [tot])), trivial⟩⟩ rfl rfl ?_
  rintro i hI _ hAg0
  have hk := hI
  refine CJ.seq fun _ hK4 _ => ?_
  refine CJ.seq fun _ hK5 _ => ?_
  refine CJ.region ?_
  refine J.p (PR.move rfl) rfl ?_
  refine J.p (PR.move rfl) rfl ?_
  refine J.p (PR.lenSlice u39 rfl rfl) rfl ?_
  refine J.p (PR.lss rfl rfl) rfl ?_
  refine J.nil ?_
  refine EJ.thenN (hK5 ?_)
  refine CJ.condD rfl (fun hc9 => ?_) (fun hc9 => ?_)
  ·
    refine CJ.skip ?_
    refine EJ.thenN (hK4 ?_)
    refine CJ.seq fun _ hK6 _ => ?_
    refine CJ.block ?_
    refine CJ.region ?_
    refine J.p (PR.move rfl) rfl ?_
    refine J.p (PR.move rfl) rfl ?_
    refine J.p (PR.idx1 u39 sz29 rfl rfl rfl (by omega) (fun _ => hq (by omega))) rfl ?_
    refine J.p (PR.fldP u29 rfl sz27 rfl (hq (by omega))) rfl ?_
    refine J.p (PR.loadO rfl (.s (.s .z)) (slicesC_get (i := i) (by omega)) pl27) rfl ?_
    refine J.p (PR.move rfl) rfl ?_
    refine J.call fn81 rfl rfl fun w hH => (markTermS_c (by have := tot_take_le (fs := fs) (i := i) (by omega); omega) (Hp.fsIn (i := i) (hH.front (.s .z)) (by omega))).mono ?_
    rintro _ w ⟨rfl, hH⟩
    have hH2 := Hp.fsOut (f := marksT (k + 9 * (tot (fs.take i) : Nat)) (fm fs i).length) (vs := vs) (gs := marksFs k (fs.take i)) (by
      have e : (marksFs k (fs.take i)).length = i := by simp; omega
      rw [e, marksT_length]
      exact hH.front (.s (.s .z)) |>.front (.s .z))
    refine ⟨_, rfl, fun a hF => J.of hF hH2 ?_⟩
    refine J.p (PR.assign rfl) rfl ?_
    refine J.nil ?_
    refine EJ.inN ?_
    refine EJ.thenN (hK6 ?_)
    refine CJ.region ?_
    refine J.p (PR.move rfl) rfl ?_
    refine J.p (PR.add rfl rfl (by first | exact nw _ (by omega) | rfl)) rfl ?_
    refine J.p (PR.assign rfl) rfl ?_
    refine J.nil ?_
    refine EJ.thenN ?_
    exact hAg0 (i + 1) (by omega) (by omega) 17 rfl rfl ⟨rfl, ⟨(vi (by rw [tot_succ (by omega)]; omega)), trivial⟩⟩ rfl (by rw [marksFs_succ (by omega)])
  ·
    refine CJ.exit ?_
    refine EJ.thenE ?_
    refine EJ.thenE ?_
    refine EJ.inE ?_
    refine EJ.thenN (hK2 ?_)
    refine CJ.seq fun _ hK7 _ => ?_
    refine CJ.region ?_
    refine J.p (PR.move rfl) rfl ?_
    refine J.p (PR.assign rfl) rfl ?_
    refine J.nil ?_
    refine EJ.thenN (hK7 ?_)
    refine CJ.ret ?_
    refine EJ.ret1 rfl (Res.tmp rfl) fun w hH => ?_
    replace hH := hH.sublist (.cons_cons _ (.cons _ (.cons_cons _ (List.Sublist.refl _))))
    obtain rfl : i = fs.length := by omega
    rw [List.take_length] at hH
    exact ⟨by rw [List.take_length], hH⟩

theorem markFormS_c {B : World} {H0 H : HP} {L : List SA} {w : World} {q : Option Addr} {c : Nat} {vs : Vs} {fs : List (List Term)} {k : Int} (hn : 0 ≤ k ∧ k + 9 * (tot fs : Nat) ≤ 9223372036854775807) (hl : fs.length ≤ 9223372036854775807) (hH : Hp B H0 H (ownFs 29 88 q c vs fs :: L) w) :
    Calls Try.prog 56 [.slice q fs.length c, .int .i64 k].toArray w fun e w' => e = .returned (.int .i64 (k + 9 * (tot fs : Nat))) ∧ Hp B H0 H (ownFs 29 88 q c vs (marksFs k fs) :: L) w' := by
  have hu := hH.unstar
  have hq : 0 < fs.length → q.isSome = true := fun h => by
    rcases (hu.objs _ (List.mem_cons_self)).1.2 with ⟨_, h2, _⟩ | ⟨g, cur, rfl, _⟩
    · omega
    · rfl
  refine (markFormS_s hn hl hq ((hu.front (.s .z)).emp)).mono ?_
  rintro _ w ⟨rfl, h⟩
  refine ⟨rfl, ?_⟩
  have h2 := (h.front (.s .z)).star
  unfold ownFs
  rw [slicesC_marks, marksFs_length]
  exact h2

set_option maxRecDepth 10000 in
theorem heldFormS_c {B : World} {H0 H : HP} {L : List SA} {w : World} {qxs : Option Addr} {cxs : Nat} {xs : List (List Term)} {kxs : Int}   (hxs : MForms H qxs kxs xs) (hn : 0 ≤ kxs ∧ kxs + 9 * (tot xs : Nat) ≤ 9223372036854775807) (hl : xs.length ≤ 9223372036854775807) (hH : Hp B H0 H L w) :
    Calls Try.prog 57 [.slice qxs xs.length cxs, .int .i64 kxs].toArray w fun e w' => e = .returned (.int .i64 (kxs + 9 * (tot xs : Nat))) ∧ Hp B H0 H L w' := by
  refine CJ.enter Try.func57 rfl 22 rfl rfl [(0, .slice qxs xs.length cxs), (1, .int .i64 kxs)] rfl hH ?_
  clear hH
  refine CJ.seq fun _ hK1 _ => ?_
  refine CJ.region ?_
  refine J.p (PR.assign rfl) rfl ?_
  refine J.nil ?_
  refine EJ.thenN (hK1 ?_)
  refine CJ.seq fun _ hK2 _ => ?_
  refine CJ.seq fun _ hK3 _ => ?_
  refine CJ.region ?_
  refine J.p (PR.assign rfl) rfl ?_
  refine J.nil ?_
  refine EJ.thenN (hK3 ?_)
  refine CJ.block ?_
  refine CJ.loopU (σ := Nat) (fun (i : Nat) => [(5, .int .i64 (i : Int)), (1, .int .i64 (kxs + 9 * (tot (xs.take i) : Nat)))]) (fun (i : Nat) => H) (fun (i : Nat) => L) (fun (i : Nat) => i ≤ xs.length) (fun (i : Nat) => xs.length - i) 0 (by omega) ⟨rfl, ⟨(vi (by simp [tot])), trivial⟩⟩ rfl rfl ?_
  rintro i hI _ hAg0
  have hk := hI
  refine CJ.seq fun _ hK4 _ => ?_
  refine CJ.seq fun _ hK5 _ => ?_
  refine CJ.region ?_
  refine J.p (PR.move rfl) rfl ?_
  refine J.p (PR.move rfl) rfl ?_
  refine J.p (PR.lenSlice u39 rfl rfl) rfl ?_
  refine J.p (PR.lss rfl rfl) rfl ?_
  refine J.nil ?_
  refine EJ.thenN (hK5 ?_)
  refine CJ.condD rfl (fun hc9 => ?_) (fun hc9 => ?_)
  ·
    refine CJ.skip ?_
    refine EJ.thenN (hK4 ?_)
    refine CJ.seq fun _ hK6 _ => ?_
    refine CJ.block ?_
    refine CJ.seq fun _ hK7 _ => ?_
    refine CJ.region ?_
    refine J.p (PR.move rfl) rfl ?_
    refine J.p (PR.move rfl) rfl ?_
    refine J.p (PR.idx1 u39 sz29 rfl rfl rfl (by omega) hxs.sm) rfl ?_
    refine J.p (PR.fldP u29 rfl sz27 rfl (hxs.sm (i := i) (by omega))) rfl ?_
    obtain ⟨qe16, ce16, he16, Fe16⟩ := hxs i (by omega)
    refine J.p (PR.loadH rfl he16 pl27) rfl ?_
    refine J.p (PR.move rfl) rfl ?_
    refine J.call fn82 rfl rfl fun w hH => (heldTermS_c Fe16 (by have := tot_take_le (fs := xs) (i := i) (by omega); omega) hH).mono ?_
    rintro _ w ⟨rfl, hH⟩
    refine ⟨_, rfl, fun a hF => J.of hF hH ?_⟩
    refine J.p (PR.assign rfl) rfl ?_
    refine J.nil ?_
    refine EJ.thenN (hK7 ?_)
    refine CJ.seq fun _ hK8 _ => ?_
    refine CJ.region ?_
    refine J.p (PR.move rfl) rfl ?_
    refine J.p (PR.lss rfl rfl) rfl ?_
    refine J.nil ?_
    refine EJ.thenN (hK8 ?_)
    refine CJ.condD rfl (fun hc20 => ?_) (fun hc20 => ?_)
    ·
      refine CJ.seq fun _ hK9 _ => ?_
      refine CJ.region ?_
      refine J.p (PR.assign rfl) rfl ?_
      refine J.nil ?_
      refine EJ.thenN (hK9 ?_)
      refine CJ.ret ?_
      refine EJ.inR ?_
      refine EJ.thenR ?_
      refine EJ.thenR ?_
      refine EJ.inR ?_
      refine EJ.thenR ?_
      refine EJ.ret1 rfl (Res.tmp rfl) fun w hH => ?_
      omega
    ·
      refine CJ.skip ?_
      refine EJ.inN ?_
      refine EJ.thenN (hK6 ?_)
      refine CJ.region ?_
      refine J.p (PR.move rfl) rfl ?_
      refine J.p (PR.add rfl rfl (by first | exact nw _ (by omega) | rfl)) rfl ?_
      refine J.p (PR.assign rfl) rfl ?_
      refine J.nil ?_
      refine EJ.thenN ?_
      exact hAg0 (i + 1) (by omega) (by omega) 19 rfl rfl ⟨rfl, ⟨(vi (by rw [tot_succ (by omega)]; omega)), trivial⟩⟩ rfl rfl
  ·
    refine CJ.exit ?_
    refine EJ.thenE ?_
    refine EJ.thenE ?_
    refine EJ.inE ?_
    refine EJ.thenN (hK2 ?_)
    refine CJ.seq fun _ hK10 _ => ?_
    refine CJ.region ?_
    refine J.p (PR.move rfl) rfl ?_
    refine J.p (PR.assign rfl) rfl ?_
    refine J.nil ?_
    refine EJ.thenN (hK10 ?_)
    refine CJ.ret ?_
    refine EJ.ret1 rfl (Res.tmp rfl) fun w hH => ?_
    obtain rfl : i = xs.length := by omega
    exact ⟨by rw [List.take_length], hH⟩
set_option maxRecDepth 10000 in
theorem markAlgebra_c {B : World} {H0 H : HP} {L : List SA} {w : World} {qad qaf : Option Addr} {ma cad caf : Nat} {cellsa : List Value} {vsa : Vs} {a : List (List Term)} {k : Int}  (hn : 0 ≤ k ∧ k + ma + 9 * (tot a : Nat) ≤ 9223372036854775807) (hl : a.length ≤ 9223372036854775807) (hH : Hp B H0 H (own 2 1 qad ma cad cellsa :: ownFs 29 88 qaf caf vsa a :: L) w) :
    Calls Try.prog 31 [.agg [.slice qad ma cad, .slice qaf a.length caf].toArray, .int .i64 k].toArray w fun e w' => e = .returned (.int .i64 (k + ma + 9 * (tot a : Nat))) ∧ Hp B H0 H (own 2 1 qad ma cad (intsC (marks k ma)) :: ownFs 29 88 qaf caf vsa (marksFs (k + ma) a) :: L) w' := by
  refine CJ.enter Try.func31 rfl 14 rfl rfl [(0, .agg [.slice qad ma cad, .slice qaf a.length caf].toArray), (1, .int .i64 k)] rfl hH ?_
  clear hH
  refine CJ.seq fun _ hK1 _ => ?_
  refine CJ.region ?_
  refine J.box rfl rfl rfl fun g2 => ?_
  refine J.p (PR.assign rfl) rfl ?_
  refine J.nil ?_
  refine EJ.thenN (hK1 ?_)
  refine CJ.seq fun _ hK2 _ => ?_
  refine CJ.region ?_
  refine J.p (PR.fldA u41 rfl sz22 rfl) rfl ?_
  refine J.p (PR.load rfl At.z rfl pl22) rfl ?_
  refine J.p (PR.move rfl) rfl ?_
  refine J.call fn25 rfl rfl fun w hH => (markInt64S_c (by omega) (hH.front (.s .z))).mono ?_
  rintro _ w ⟨rfl, hH⟩
  refine ⟨_, rfl, fun a hF => J.of hF hH ?_⟩
  refine J.p (PR.assign rfl) rfl ?_
  refine J.nil ?_
  refine EJ.thenN (hK2 ?_)
  refine CJ.seq fun _ hK3 _ => ?_
  refine CJ.region ?_
  refine J.p (PR.fldA u41 rfl sz39 rfl) rfl ?_
  refine J.p (PR.load rfl (.s .z) rfl pl39) rfl ?_
  refine J.p (PR.move rfl) rfl ?_
  refine J.call fn56 rfl rfl fun w hH => (markFormS_c (by omega) (by omega) (hH.front (.s (.s .z)))).mono ?_
  rintro _ w ⟨rfl, hH⟩
  refine ⟨_, rfl, fun a hF => J.of hF hH ?_⟩
  refine J.p (PR.assign rfl) rfl ?_
  refine J.nil ?_
  refine EJ.thenN (hK3 ?_)
  refine CJ.seq fun _ hK4 _ => ?_
  refine CJ.region ?_
  refine J.p (PR.move rfl) rfl ?_
  refine J.p (PR.assign rfl) rfl ?_
  refine J.nil ?_
  refine EJ.thenN (hK4 ?_)
  refine CJ.ret ?_
  refine EJ.ret1 rfl (Res.tmp rfl) fun w hH => ?_
  replace hH := hH.sublist (.cons_cons _ (.cons_cons _ (.cons _ (List.Sublist.refl _))))
  exact ⟨rfl, hH.front (.s .z)⟩
set_option maxRecDepth 10000 in
theorem heldAlgebra_c {B : World} {H0 H : HP} {L : List SA} {w : World} {qad qaf : Option Addr} {cad caf ma : Nat} {ka : Int} {a : List (List Term)}   (had : MInts H qad ka ma) (haf : MForms H qaf (ka + ma) a) (hn : 0 ≤ ka ∧ ka + ma + 9 * (tot a : Nat) ≤ 9223372036854775807) (hl : a.length ≤ 9223372036854775807) (hH : Hp B H0 H L w) :
    Calls Try.prog 32 [.agg [.slice qad ma cad, .slice qaf a.length caf].toArray, .int .i64 ka].toArray w fun e w' => e = .returned (.int .i64 (ka + ma + 9 * (tot a : Nat))) ∧ Hp B H0 H L w' := by
  refine CJ.enter Try.func32 rfl 18 rfl rfl [(0, .agg [.slice qad ma cad, .slice qaf a.length caf].toArray), (1, .int .i64 ka)] rfl hH ?_
  clear hH
  refine CJ.seq fun _ hK1 _ => ?_
  refine CJ.region ?_
  refine J.box rfl rfl rfl fun g2 => ?_
  refine J.p (PR.assign rfl) rfl ?_
  refine J.nil ?_
  refine EJ.thenN (hK1 ?_)
  refine CJ.seq fun _ hK2 _ => ?_
  refine CJ.region ?_
  refine J.p (PR.fldA u41 rfl sz22 rfl) rfl ?_
  refine J.p (PR.load rfl At.z rfl pl22) rfl ?_
  refine J.p (PR.move rfl) rfl ?_
  refine J.call fn45 rfl rfl fun w hH => (heldInt64S_c had (by omega) hH).mono ?_
  rintro _ w ⟨rfl, hH⟩
  refine ⟨_, rfl, fun a hF => J.of hF hH ?_⟩
  refine J.p (PR.assign rfl) rfl ?_
  refine J.nil ?_
  refine EJ.thenN (hK2 ?_)
  refine CJ.seq fun _ hK3 _ => ?_
  refine CJ.seq fun _ hK4 _ => ?_
  refine CJ.region ?_
  refine J.p (PR.move rfl) rfl ?_
  refine J.p (PR.lss rfl rfl) rfl ?_
  refine J.nil ?_
  refine EJ.thenN (hK4 ?_)
  refine CJ.condD rfl (fun hc10 => ?_) (fun hc10 => ?_)
  ·
    refine CJ.seq fun _ hK5 _ => ?_
    refine CJ.region ?_
    refine J.p (PR.assign rfl) rfl ?_
    refine J.nil ?_
    refine EJ.thenN (hK5 ?_)
    refine CJ.ret ?_
    refine EJ.thenR ?_
    refine EJ.ret1 rfl (Res.tmp rfl) fun w hH => ?_
    replace hH := hH.tail
    omega
  ·
    refine CJ.skip ?_
    refine EJ.thenN (hK3 ?_)
    refine CJ.seq fun _ hK6 _ => ?_
    refine CJ.region ?_
    refine J.p (PR.fldA u41 rfl sz39 rfl) rfl ?_
    refine J.p (PR.load rfl At.z rfl pl39) rfl ?_
    refine J.p (PR.move rfl) rfl ?_
    refine J.call fn57 rfl rfl fun w hH => (heldFormS_c haf (by omega) (by omega) hH).mono ?_
    rintro _ w ⟨rfl, hH⟩
    refine ⟨_, rfl, fun a hF => J.of hF hH ?_⟩
    refine J.p (PR.assign rfl) rfl ?_
    refine J.nil ?_
    refine EJ.thenN (hK6 ?_)
    refine CJ.seq fun _ hK7 _ => ?_
    refine CJ.seq fun _ hK8 _ => ?_
    refine CJ.region ?_
    refine J.p (PR.move rfl) rfl ?_
    refine J.p (PR.lss rfl rfl) rfl ?_
    refine J.nil ?_
    refine EJ.thenN (hK8 ?_)
    refine CJ.condD rfl (fun hc16 => ?_) (fun hc16 => ?_)
    ·
      refine CJ.seq fun _ hK9 _ => ?_
      refine CJ.region ?_
      refine J.p (PR.assign rfl) rfl ?_
      refine J.nil ?_
      refine EJ.thenN (hK9 ?_)
      refine CJ.ret ?_
      refine EJ.thenR ?_
      refine EJ.ret1 rfl (Res.tmp rfl) fun w hH => ?_
      replace hH := hH.tail
      omega
    ·
      refine CJ.skip ?_
      refine EJ.thenN (hK7 ?_)
      refine CJ.seq fun _ hK10 _ => ?_
      refine CJ.region ?_
      refine J.p (PR.move rfl) rfl ?_
      refine J.p (PR.assign rfl) rfl ?_
      refine J.nil ?_
      refine EJ.thenN (hK10 ?_)
      refine CJ.ret ?_
      refine EJ.ret1 rfl (Res.tmp rfl) fun w hH => ?_
      replace hH := hH.tail
      exact ⟨rfl, hH⟩
set_option maxRecDepth 10000 in
theorem eqFormS_c {B : World} {H0 H : HP} {L : List SA} {w : World} {qxs : Option Addr} {cxs : Nat} {xs : List (List Term)} {qys : Option Addr} {cys : Nat} {ys : List (List Term)}  (hxs : Forms H qxs xs) (hys : Forms H qys ys) (hn : xs.length ≤ 9223372036854775807) (hf : ∀ i, i < xs.length → (fm xs i).length ≤ 9223372036854775807) (hH : Hp B H0 H L w) :
    Calls Try.prog 55 [.slice qxs xs.length cxs, .slice qys ys.length cys].toArray w fun e w' => e = .returned (.bool (decide (xs = ys))) ∧ Hp B H0 H L w' := by
  refine CJ.enter Try.func55 rfl 27 rfl rfl [(0, .slice qxs xs.length cxs), (1, .slice qys ys.length cys)] rfl hH ?_
  clear hH
  refine CJ.seq fun _ hK1 _ => ?_
  refine CJ.region ?_
  refine J.p (PR.assign rfl) rfl ?_
  refine J.nil ?_
  refine EJ.thenN (hK1 ?_)
  refine CJ.seq fun _ hK2 _ => ?_
  refine CJ.seq fun _ hK3 _ => ?_
  refine CJ.region ?_
  refine J.p (PR.move rfl) rfl ?_
  refine J.p (PR.lenSlice u39 rfl rfl) rfl ?_
  refine J.p (PR.move rfl) rfl ?_
  refine J.p (PR.lenSlice u39 rfl rfl) rfl ?_
  refine J.p (PR.neq rfl rfl) rfl ?_
  refine J.nil ?_
  refine EJ.thenN (hK3 ?_)
  refine CJ.condD rfl (fun h10 => ?_) (fun h10 => ?_)
  ·
    refine CJ.seq fun _ hK4 _ => ?_
    refine CJ.region ?_
    refine J.p (PR.assign rfl) rfl ?_
    refine J.nil ?_
    refine EJ.thenN (hK4 ?_)
    refine CJ.ret ?_
    refine EJ.thenR ?_
    refine EJ.ret1 rfl (Res.tmp rfl) fun w hH => ?_
    exact ⟨rb (decide_eq_false (fun e => h10 (by rw [e]))).symm, hH⟩
  ·
    refine CJ.skip ?_
    refine EJ.thenN (hK2 ?_)
    refine CJ.seq fun _ hK5 _ => ?_
    refine CJ.seq fun _ hK6 _ => ?_
    refine CJ.region ?_
    refine J.p (PR.assign rfl) rfl ?_
    refine J.nil ?_
    refine EJ.thenN (hK6 ?_)
    refine CJ.block ?_
    refine CJ.loopU (σ := Nat) (fun (k : Nat) => [(5, .int .i64 (k : Int))]) (fun (k : Nat) => H) (fun (k : Nat) => L) (fun (k : Nat) => k ≤ xs.length ∧ ∀ j, j < k → fm xs j = fm ys j) (fun (k : Nat) => xs.length - k) 0 ⟨by omega, fun j hj => by omega⟩ ⟨rfl, trivial⟩ rfl rfl ?_
    rintro k hI _ hAg0
    have hk := hI.1
    refine CJ.seq fun _ hK7 _ => ?_
    refine CJ.seq fun _ hK8 _ => ?_
    refine CJ.region ?_
    refine J.p (PR.move rfl) rfl ?_
    refine J.p (PR.move rfl) rfl ?_
    refine J.p (PR.lenSlice u39 rfl rfl) rfl ?_
    refine J.p (PR.lss rfl rfl) rfl ?_
    refine J.nil ?_
    refine EJ.thenN (hK8 ?_)
    refine CJ.condD rfl (fun hc14 => ?_) (fun hc14 => ?_)
    ·
      refine CJ.skip ?_
      refine EJ.thenN (hK7 ?_)
      refine CJ.seq fun _ hK9 _ => ?_
      refine CJ.block ?_
      refine CJ.seq fun _ hK10 _ => ?_
      refine CJ.head [[], [], [0, 1], [2], [], [], [4, 5], [6]] (by kernel_rfl) ?_
      refine HJ.op (fun gh => PR.move rfl) ?_
      refine HJ.op (fun gh => PR.move rfl) ?_
      refine HJ.op (fun gh => PR.idx1 u39 sz29 rfl rfl rfl (by omega) hxs.sm) ?_
      obtain ⟨qe20, ce20, he20, le20, Fe20⟩ := hxs k (by omega)
      refine HJ.op (fun gh => PR.loadHagg (cs := [_]) rfl (one_cell he20) (hxs.sm (i := k) (by omega)) ag29) ?_
      refine HJ.op (fun gh => PR.move rfl) ?_
      refine HJ.op (fun gh => PR.move rfl) ?_
      refine HJ.op (fun gh => PR.idx1 u39 sz29 rfl rfl rfl (by omega) hys.sm) ?_
      obtain ⟨qe24, ce24, he24, le24, Fe24⟩ := hys k (by omega)
      refine HJ.op (fun gh => PR.loadHagg (cs := [_]) rfl (one_cell he24) (hys.sm (i := k) (by omega)) ag29) ?_
      refine HJ.close 8 1 foll0 (by kernel_rfl) rfl rfl fun gh => ?_
      refine J.conv (us' := (17, _) :: (18, _) :: (19, _) :: (20, _) :: (21, _) :: (22, _) :: (23, _) :: (24, _) :: _) (L' := _) rfl rfl ?_
      refine J.call fn23 rfl rfl fun w hH => (eqForm_c Fe20 Fe24 (hf k (by omega)) hH).mono ?_
      rintro _ w ⟨rfl, hH⟩
      refine ⟨_, rfl, fun a hF => J.of hF hH ?_⟩
      refine J.nil ?_
      refine EJ.still ?_
      refine JS.op (PR.not rfl) rfl ?_
      refine JS.nil ?_
      refine EJ.thenN (hK10 ?_)
      refine CJ.cond rfl (fun h26 => ?_) (fun h26 => ?_)
      ·
        refine CJ.seq fun _ hK11 _ => ?_
        refine CJ.region ?_
        refine J.p (PR.assign rfl) rfl ?_
        refine J.nil ?_
        refine EJ.thenN (hK11 ?_)
        refine CJ.ret ?_
        refine EJ.inR ?_
        refine EJ.thenR ?_
        refine EJ.thenR ?_
        refine EJ.inR ?_
        refine EJ.thenR ?_
        refine EJ.ret1 rfl (Res.tmp rfl) fun w hH => ?_
        exact ⟨rb (decide_eq_false (fun e => (by rw [e] at h26; simp at h26))).symm, hH⟩
      ·
        refine CJ.skip ?_
        refine EJ.inN ?_
        refine EJ.thenN (hK9 ?_)
        refine CJ.region ?_
        refine J.p (PR.move rfl) rfl ?_
        refine J.p (PR.add rfl rfl (by first | exact nw _ (by omega) | rfl)) rfl ?_
        refine J.p (PR.assign rfl) rfl ?_
        refine J.nil ?_
        refine EJ.thenN ?_
        exact hAg0 (k + 1) ⟨by omega, upto hI.2 (of_decide_eq_true (notf h26))⟩ (by omega) 18 rfl rfl ⟨rfl, trivial⟩ rfl rfl
    ·
      refine CJ.exit ?_
      refine EJ.thenE ?_
      refine EJ.thenE ?_
      refine EJ.inE ?_
      refine EJ.thenN (hK5 ?_)
      refine CJ.seq fun _ hK12 _ => ?_
      refine CJ.region ?_
      refine J.p (PR.assign rfl) rfl ?_
      refine J.nil ?_
      refine EJ.thenN (hK12 ?_)
      refine CJ.ret ?_
      refine EJ.ret1 rfl (Res.tmp rfl) fun w hH => ?_
      exact ⟨rb (decide_eq_true (forms_eq_of (by omega) (fun j hj => hI.2 j (by omega)))).symm, hH⟩
set_option maxRecDepth 10000 in
theorem eqAlgebra_c {B : World} {H0 H : HP} {L : List SA} {w : World} {qad qaf : Option Addr} {cad caf : Nat} {ad : List Int} {af : List (List Term)} {qbd qbf : Option Addr} {cbd cbf : Nat} {bd : List Int} {bf : List (List Term)}  (had : Ints H qad ad) (haf : Forms H qaf af) (hbd : Ints H qbd bd) (hbf : Forms H qbf bf) (hd : ad.length ≤ 1048576) (hn : af.length ≤ 9223372036854775807) (hf : ∀ i, i < af.length → (fm af i).length ≤ 9223372036854775807) (hH : Hp B H0 H L w) :
    Calls Try.prog 30 [.agg [.slice qad ad.length cad, .slice qaf af.length caf].toArray, .agg [.slice qbd bd.length cbd, .slice qbf bf.length cbf].toArray].toArray w fun e w' => e = .returned (.bool (decide (ad = bd) && decide (af = bf))) ∧ Hp B H0 H L w' := by
  refine CJ.enter Try.func30 rfl 17 rfl rfl [(0, .agg [.slice qad ad.length cad, .slice qaf af.length caf].toArray), (1, .agg [.slice qbd bd.length cbd, .slice qbf bf.length cbf].toArray)] rfl hH ?_
  clear hH
  refine CJ.seq fun _ hK1 _ => ?_
  refine CJ.region ?_
  refine J.box rfl rfl rfl fun g2 => ?_
  refine J.box rfl rfl rfl fun g3 => ?_
  refine J.p (PR.assign rfl) rfl ?_
  refine J.nil ?_
  refine EJ.thenN (hK1 ?_)
  refine CJ.seq fun _ hK2 _ => ?_
  refine CJ.seq fun _ hK3 _ => ?_
  refine CJ.region ?_
  refine J.p (PR.fldA u41 rfl sz22 rfl) rfl ?_
  refine J.p (PR.load rfl (.s .z) rfl pl22) rfl ?_
  refine J.p (PR.fldA u41 rfl sz22 rfl) rfl ?_
  refine J.p (PR.load rfl At.z rfl pl22) rfl ?_
  refine J.call fn24 rfl rfl fun w hH => (eqInt64S_c had hbd hd hH).mono ?_
  rintro _ w ⟨rfl, hH⟩
  refine ⟨_, rfl, fun a hF => J.of hF hH ?_⟩
  refine J.p (PR.not rfl) rfl ?_
  refine J.nil ?_
  refine EJ.thenN (hK3 ?_)
  refine CJ.cond rfl (fun h10 => ?_) (fun h10 => ?_)
  ·
    refine CJ.seq fun _ hK4 _ => ?_
    refine CJ.region ?_
    refine J.p (PR.assign rfl) rfl ?_
    refine J.nil ?_
    refine EJ.thenN (hK4 ?_)
    refine CJ.ret ?_
    refine EJ.thenR ?_
    refine EJ.ret1 rfl (Res.tmp rfl) fun w hH => ?_
    replace hH := hH.tail
    replace hH := hH.tail
    exact ⟨rb (by rw [nott h10]; rfl), hH⟩
  ·
    refine CJ.skip ?_
    refine EJ.thenN (hK2 ?_)
    refine CJ.seq fun _ hK5 _ => ?_
    refine CJ.seq fun _ hK6 _ => ?_
    refine CJ.region ?_
    refine J.p (PR.fldA u41 rfl sz39 rfl) rfl ?_
    refine J.p (PR.load rfl (.s .z) rfl pl39) rfl ?_
    refine J.p (PR.fldA u41 rfl sz39 rfl) rfl ?_
    refine J.p (PR.load rfl At.z rfl pl39) rfl ?_
    refine J.call fn55 rfl rfl fun w hH => (eqFormS_c haf hbf hn hf hH).mono ?_
    rintro _ w ⟨rfl, hH⟩
    refine ⟨_, rfl, fun a hF => J.of hF hH ?_⟩
    refine J.p (PR.not rfl) rfl ?_
    refine J.nil ?_
    refine EJ.thenN (hK6 ?_)
    refine CJ.cond rfl (fun h16 => ?_) (fun h16 => ?_)
    ·
      refine CJ.seq fun _ hK7 _ => ?_
      refine CJ.region ?_
      refine J.p (PR.assign rfl) rfl ?_
      refine J.nil ?_
      refine EJ.thenN (hK7 ?_)
      refine CJ.ret ?_
      refine EJ.thenR ?_
      refine EJ.ret1 rfl (Res.tmp rfl) fun w hH => ?_
      replace hH := hH.tail
      replace hH := hH.tail
      exact ⟨rb (by rw [nott h16, Bool.and_false]), hH⟩
    ·
      refine CJ.skip ?_
      refine EJ.thenN (hK5 ?_)
      refine CJ.seq fun _ hK8 _ => ?_
      refine CJ.region ?_
      refine J.p (PR.assign rfl) rfl ?_
      refine J.nil ?_
      refine EJ.thenN (hK8 ?_)
      refine CJ.ret ?_
      refine EJ.ret1 rfl (Res.tmp rfl) fun w hH => ?_
      replace hH := hH.tail
      replace hH := hH.tail
      exact ⟨rb (by rw [notf h10, notf h16]; rfl), hH⟩
end Go.Proofs.Ytpojpokldncglaa.G
