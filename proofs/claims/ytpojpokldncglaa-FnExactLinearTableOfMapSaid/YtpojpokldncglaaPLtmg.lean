/- A part of the walk of one law: what the functions compute. No condition. -/
import Derived.Test.YtpojpokldncglaaRows
import Derived.Test.YtpojpokldncglaaProg
import Derived.WalkKit
import Derived.KernelRfl
import Derived.JoinedOf
import Derived.Maps.AppendAt
import Derived.Still
import Derived.ProofKit
import Derived.OpenShut
import Derived.StillTail
import Derived.Deep.Upon
import Derived.WalkSpells
import Derived.Maps.Range
import Derived.DeepKeys4
import Derived.ChangeOld
import Derived.Below
import Derived.SizedLaws
import Derived.Test.YtpojpokldncglaaPLtmf
set_option linter.unusedVariables false
set_option linter.unusedSimpArgs false
namespace Go.Proofs.Ytpojpokldncglaa.G
open Go Go.RowKit
namespace Xy
theorem u22 : Try.prog.underlying 22 = some (TypeDesc.slice 2) := by kernel_rfl
theorem u29 : Try.prog.underlying 29 = some (TypeDesc.struct #[{ name := "Terms", type := 27, offset := 0, embedded := false, tag := "", pkgPath := "", byteOffset := 0 }]) := by kernel_rfl
theorem u39 : Try.prog.underlying 39 = some (TypeDesc.slice 29) := by kernel_rfl
theorem u41 : Try.prog.underlying 41 = some (TypeDesc.struct #[{ name := "Degrees", type := 22, offset := 0, embedded := false, tag := "", pkgPath := "", byteOffset := 0 }, { name := "Images", type := 39, offset := 1, embedded := false, tag := "", pkgPath := "", byteOffset := 24 }]) := by kernel_rfl
theorem u62 : Try.prog.underlying 62 = some (TypeDesc.slice 22) := by kernel_rfl
theorem sz22 : Size Try.prog 22 1 := by unfold Size; kernel_rfl
theorem sz29 : Size Try.prog 29 1 := by unfold Size; kernel_rfl
theorem sz39 : Size Try.prog 39 1 := by unfold Size; kernel_rfl
theorem by22 : Bytes Try.prog 22 24 := by unfold Bytes; kernel_rfl
theorem ze22 : Zero Try.prog 22 [.slice none 0 0] := by unfold Zero; kernel_rfl
theorem ze29 : Zero Try.prog 29 [.slice none 0 0] := by unfold Zero; kernel_rfl
theorem pl22 : Plain Try.prog 22 := ⟨_, u22, rfl⟩
theorem pl39 : Plain Try.prog 39 := ⟨_, u39, rfl⟩
theorem ag29 : Agg Try.prog 29 1 := ⟨_, u29, rfl, by kernel_rfl⟩
theorem ag41 : Agg Try.prog 41 2 := ⟨_, u41, rfl, by kernel_rfl⟩
theorem fn127 : Fn Try.prog 127 := ⟨_, Try.func127, by kernel_rfl, rfl⟩
theorem fn89 : Fn Try.prog 89 := ⟨_, Try.func89, by kernel_rfl, rfl⟩
theorem foll0 : Try.prog.follows .mixedOrders = true := by kernel_rfl
end Xy
open Xy
theorem ClR.le {B : World} {H0 H H' : HP} {g : Nat} {cap : Array Value} {S : List Int → Prop} {p : List Int → Bool} (h : ClR B H0 H g cap S p) (hle : Le H H') : ClR B H0 H' g cap S p := fun H2 L w q c x h2 => h H2 L w q c x (hle.trans h2)
end Go.Proofs.Ytpojpokldncglaa.G
namespace Go.Proofs.Ytpojpokldncglaa.G
open Go Go.RowKit
namespace Xz
theorem u2 : Try.prog.underlying 2 = some (TypeDesc.int .i64) := by kernel_rfl
theorem u22 : Try.prog.underlying 22 = some (TypeDesc.slice 2) := by kernel_rfl
theorem u27 : Try.prog.underlying 27 = some (TypeDesc.slice 88) := by kernel_rfl
theorem u29 : Try.prog.underlying 29 = some (TypeDesc.struct #[{ name := "Terms", type := 27, offset := 0, embedded := false, tag := "", pkgPath := "", byteOffset := 0 }]) := by kernel_rfl
theorem u39 : Try.prog.underlying 39 = some (TypeDesc.slice 29) := by kernel_rfl
theorem u41 : Try.prog.underlying 41 = some (TypeDesc.struct #[{ name := "Degrees", type := 22, offset := 0, embedded := false, tag := "", pkgPath := "", byteOffset := 0 }, { name := "Images", type := 39, offset := 1, embedded := false, tag := "", pkgPath := "", byteOffset := 24 }]) := by kernel_rfl
theorem u5 : Try.prog.underlying 5 = some (TypeDesc.int .u8) := by kernel_rfl
theorem u86 : Try.prog.underlying 86 = some (TypeDesc.array 8 5) := by kernel_rfl
theorem u88 : Try.prog.underlying 88 = some (TypeDesc.struct #[{ name := "Monomial", type := 86, offset := 0, embedded := false, tag := "", pkgPath := "", byteOffset := 0 }, { name := "Factor", type := 2, offset := 8, embedded := false, tag := "", pkgPath := "", byteOffset := 8 }]) := by kernel_rfl
theorem sz2 : Size Try.prog 2 1 := by unfold Size; kernel_rfl
theorem sz22 : Size Try.prog 22 1 := by unfold Size; kernel_rfl
theorem sz27 : Size Try.prog 27 1 := by unfold Size; kernel_rfl
theorem sz29 : Size Try.prog 29 1 := by unfold Size; kernel_rfl
theorem sz39 : Size Try.prog 39 1 := by unfold Size; kernel_rfl
theorem sz5 : Size Try.prog 5 1 := by unfold Size; kernel_rfl
theorem sz86 : Size Try.prog 86 8 := by unfold Size; kernel_rfl
theorem sz88 : Size Try.prog 88 9 := by unfold Size; kernel_rfl
theorem by2 : Bytes Try.prog 2 8 := by unfold Bytes; kernel_rfl
theorem ze2 : Zero Try.prog 2 [.int .i64 0] := by unfold Zero; kernel_rfl
theorem ze29 : Zero Try.prog 29 [.slice none 0 0] := by unfold Zero; kernel_rfl
theorem ze88 : Zero Try.prog 88 [.int .u8 0, .int .u8 0, .int .u8 0, .int .u8 0, .int .u8 0, .int .u8 0, .int .u8 0, .int .u8 0, .int .i64 0] := by unfold Zero; kernel_rfl
theorem pl2 : Plain Try.prog 2 := ⟨_, u2, rfl⟩
theorem pl22 : Plain Try.prog 22 := ⟨_, u22, rfl⟩
theorem pl27 : Plain Try.prog 27 := ⟨_, u27, rfl⟩
theorem pl39 : Plain Try.prog 39 := ⟨_, u39, rfl⟩
theorem pl5 : Plain Try.prog 5 := ⟨_, u5, rfl⟩
theorem ag29 : Agg Try.prog 29 1 := ⟨_, u29, rfl, by kernel_rfl⟩
theorem ag41 : Agg Try.prog 41 2 := ⟨_, u41, rfl, by kernel_rfl⟩
theorem ag86 : Agg Try.prog 86 8 := ⟨_, u86, rfl, by kernel_rfl⟩
theorem ag88 : Agg Try.prog 88 9 := ⟨_, u88, rfl, by kernel_rfl⟩
theorem fn89 : Fn Try.prog 89 := ⟨_, Try.func89, by kernel_rfl, rfl⟩
end Xz
open Xz
end Go.Proofs.Ytpojpokldncglaa.G
namespace Go.Proofs.Ytpojpokldncglaa.G
open Go Go.RowKit
namespace Na
theorem u22 : Try.prog.underlying 22 = some (TypeDesc.slice 2) := by kernel_rfl
theorem u62 : Try.prog.underlying 62 = some (TypeDesc.slice 22) := by kernel_rfl
theorem sz22 : Size Try.prog 22 1 := by unfold Size; kernel_rfl
theorem pl22 : Plain Try.prog 22 := ⟨_, u22, rfl⟩
theorem fn25 : Fn Try.prog 25 := ⟨_, Try.func25, by kernel_rfl, rfl⟩
theorem fn45 : Fn Try.prog 45 := ⟨_, Try.func45, by kernel_rfl, rfl⟩
end Na
open Na
set_option maxRecDepth 10000 in
theorem markInt64SS_s {B : World} {H0 H : HP} {L : List SA} {w : World} {qfs : Option Addr} {cfs : Nat} {vs : Vs} {fs : List (List Int)} {k : Int}  (hn : 0 ≤ k ∧ k + (totI fs : Nat) ≤ 9223372036854775807) (hl : fs.length ≤ 9223372036854775807) (hq : 0 < fs.length → qfs.isSome = true) (hH : Hp B H0 H (emp :: ownIs 2 vs fs :: own 22 1 qfs fs.length cfs (slicesI vs fs) :: L) w) :
    Calls Try.prog 49 [.slice qfs fs.length cfs, .int .i64 k].toArray w fun e w' => e = .returned (.int .i64 (k + (totI fs : Nat))) ∧ Hp B H0 H (ownIs 2 vs (marksIs k fs) :: own 22 1 qfs fs.length cfs (slicesI vs fs) :: L) w' := by
  refine CJ.enter Try.func49 rfl 19 rfl rfl [(0, .slice qfs fs.length cfs), (1, .int .i64 k)] rfl hH ?_
  clear hH
  refine CJ.seq fun _ hK1 _ => ?_
  refine CJ.region ?_
  refine J.p (PR.assign rfl) rfl ?_
  refine J.nil ?_
  refine EJ.thenN (hK1 ?_)
  refine CJ.seq fun _ hK2 _ => ?_
  refine CJ.seq fun _ hK3 _ => ?_
  refine CJ.region ?_
  refine J.p (PR.assign rfl) rfl ?_
  refine J.nil ?_
  refine EJ.thenN (hK3 ?_)
  refine CJ.block ?_
  refine CJ.loopU (σ := Nat) (fun (i : Nat) => [(5, .int .i64 (i : Int)), (1, .int .i64 (k + (totI (fs.take i) : Nat)))]) (fun (i : Nat) => H) (fun (i : Nat) => ownIs 2 vs (marksIs k (fs.take i)) :: ownIs 2 (vs.dr i) (fs.drop i) :: own 22 1 qfs fs.length cfs (slicesI vs fs) :: L) (fun (i : Nat) => i ≤ fs.length) (fun (i : Nat) => fs.length - i) 0 (by omega) ⟨rfl, ⟨(vi (by simp [totI])), trivial⟩⟩ rfl rfl ?_
  rintro i hI _ hAg0
  have hk := hI
  refine CJ.seq fun _ hK4 _ => ?_
  refine CJ.seq fun _ hK5 _ => ?_
  refine CJ.region ?_
  refine J.p (PR.move rfl) rfl ?_
  refine J.p (PR.move rfl) rfl ?_
  refine J.p (PR.lenSlice u62 rfl rfl) rfl ?_
  refine J.p (PR.lss rfl rfl) rfl ?_
  refine J.nil ?_
  refine EJ.thenN (hK5 ?_)
  refine CJ.condD rfl (fun hc9 => ?_) (fun hc9 => ?_)
  ·
    refine CJ.skip ?_
    refine EJ.thenN (hK4 ?_)
    refine CJ.seq fun _ hK6 _ => ?_
    refine CJ.block ?_
    refine CJ.region ?_
    refine J.p (PR.move rfl) rfl ?_
    refine J.p (PR.move rfl) rfl ?_
    refine J.p (PR.idx1 u62 sz22 rfl rfl rfl (by omega) (fun _ => hq (by omega))) rfl ?_
    refine J.p (PR.loadO rfl (.s (.s .z)) (slicesI_get (i := i) (by omega)) pl22) rfl ?_
    refine J.p (PR.move rfl) rfl ?_
    refine J.call fn25 rfl rfl fun w hH => (markInt64S_c (by have := totI_take_le (fs := fs) (i := i) (by omega); omega) (Hp.isIn (i := i) (hH.front (.s .z)) (by omega))).mono ?_
    rintro _ w ⟨rfl, hH⟩
    have hH2 := Hp.isOut (f := marks (k + (totI (fs.take i) : Nat)) (rw_ fs i).length) (vs := vs) (gs := marksIs k (fs.take i)) (by
      have e : (marksIs k (fs.take i)).length = i := by simp; omega
      rw [e, marks_length]
      exact hH.front (.s (.s .z)) |>.front (.s .z))
    refine ⟨_, rfl, fun a hF => J.of hF hH2 ?_⟩
    refine J.p (PR.assign rfl) rfl ?_
    refine J.nil ?_
    refine EJ.inN ?_
    refine EJ.thenN (hK6 ?_)
    refine CJ.region ?_
    refine J.p (PR.move rfl) rfl ?_
    refine J.p (PR.add rfl rfl (by first | exact nw _ (by omega) | rfl)) rfl ?_
    refine J.p (PR.assign rfl) rfl ?_
    refine J.nil ?_
    refine EJ.thenN ?_
    exact hAg0 (i + 1) (by omega) (by omega) 16 rfl rfl ⟨rfl, ⟨(vi (by rw [totI_succ (by omega)]; omega)), trivial⟩⟩ rfl (by rw [marksIs_succ (by omega)])
  ·
    refine CJ.exit ?_
    refine EJ.thenE ?_
    refine EJ.thenE ?_
    refine EJ.inE ?_
    refine EJ.thenN (hK2 ?_)
    refine CJ.seq fun _ hK7 _ => ?_
    refine CJ.region ?_
    refine J.p (PR.move rfl) rfl ?_
    refine J.p (PR.assign rfl) rfl ?_
    refine J.nil ?_
    refine EJ.thenN (hK7 ?_)
    refine CJ.ret ?_
    refine EJ.ret1 rfl (Res.tmp rfl) fun w hH => ?_
    replace hH := hH.sublist (.cons_cons _ (.cons _ (.cons_cons _ (List.Sublist.refl _))))
    obtain rfl : i = fs.length := by omega
    rw [List.take_length] at hH
    exact ⟨by rw [List.take_length], hH⟩
theorem markInt64SS_c {B : World} {H0 H : HP} {L : List SA} {w : World} {q : Option Addr} {c : Nat} {vs : Vs} {fs : List (List Int)} {k : Int} (hn : 0 ≤ k ∧ k + (totI fs : Nat) ≤ 9223372036854775807) (hl : fs.length ≤ 9223372036854775807) (hH : Hp B H0 H (ownRs 22 2 q c vs fs :: L) w) :
    Calls Try.prog 49 [.slice q fs.length c, .int .i64 k].toArray w fun e w' => e = .returned (.int .i64 (k + (totI fs : Nat))) ∧ Hp B H0 H (ownRs 22 2 q c vs (marksIs k fs) :: L) w' := by
  have hu := hH.unstar
  have hq : 0 < fs.length → q.isSome = true := fun h => by
    rcases (hu.objs _ (List.mem_cons_self)).1.2 with ⟨_, h2, _⟩ | ⟨g, cur, rfl, _⟩
    · omega
    · rfl
  refine (markInt64SS_s hn hl hq ((hu.front (.s .z)).emp)).mono ?_
  rintro _ w ⟨rfl, h⟩
  refine ⟨rfl, ?_⟩
  have h2 := (h.front (.s .z)).star
  unfold ownRs
  rw [slicesI_marks, marksIs_length]
  exact h2
set_option maxRecDepth 10000 in
theorem heldInt64SS_c {B : World} {H0 H : HP} {L : List SA} {w : World} {qxs : Option Addr} {cxs : Nat} {xs : List (List Int)} {kxs : Int}   (hxs : MRows H qxs kxs xs) (hn : 0 ≤ kxs ∧ kxs + (totI xs : Nat) ≤ 9223372036854775807) (hl : xs.length ≤ 9223372036854775807) (hH : Hp B H0 H L w) :
    Calls Try.prog 50 [.slice qxs xs.length cxs, .int .i64 kxs].toArray w fun e w' => e = .returned (.int .i64 (kxs + (totI xs : Nat))) ∧ Hp B H0 H L w' := by
  refine CJ.enter Try.func50 rfl 21 rfl rfl [(0, .slice qxs xs.length cxs), (1, .int .i64 kxs)] rfl hH ?_
  clear hH
  refine CJ.seq fun _ hK1 _ => ?_
  refine CJ.region ?_
  refine J.p (PR.assign rfl) rfl ?_
  refine J.nil ?_
  refine EJ.thenN (hK1 ?_)
  refine CJ.seq fun _ hK2 _ => ?_
  refine CJ.seq fun _ hK3 _ => ?_
  refine CJ.region ?_
  refine J.p (PR.assign rfl) rfl ?_
  refine J.nil ?_
  refine EJ.thenN (hK3 ?_)
  refine CJ.block ?_
  refine CJ.loopU (σ := Nat) (fun (i : Nat) => [(5, .int .i64 (i : Int)), (1, .int .i64 (kxs + (totI (xs.take i) : Nat)))]) (fun (i : Nat) => H) (fun (i : Nat) => L) (fun (i : Nat) => i ≤ xs.length) (fun (i : Nat) => xs.length - i) 0 (by omega) ⟨rfl, ⟨(vi (by simp [totI])), trivial⟩⟩ rfl rfl ?_
  rintro i hI _ hAg0
  have hk := hI
  refine CJ.seq fun _ hK4 _ => ?_
  refine CJ.seq fun _ hK5 _ => ?_
  refine CJ.region ?_
  refine J.p (PR.move rfl) rfl ?_
  refine J.p (PR.move rfl) rfl ?_
  refine J.p (PR.lenSlice u62 rfl rfl) rfl ?_
  refine J.p (PR.lss rfl rfl) rfl ?_
  refine J.nil ?_
  refine EJ.thenN (hK5 ?_)
  refine CJ.condD rfl (fun hc9 => ?_) (fun hc9 => ?_)
  ·
    refine CJ.skip ?_
    refine EJ.thenN (hK4 ?_)
    refine CJ.seq fun _ hK6 _ => ?_
    refine CJ.block ?_
    refine CJ.seq fun _ hK7 _ => ?_
    refine CJ.region ?_
    refine J.p (PR.move rfl) rfl ?_
    refine J.p (PR.move rfl) rfl ?_
    refine J.p (PR.idx1 u62 sz22 rfl rfl rfl (by omega) hxs.sm) rfl ?_
    obtain ⟨qe15, ce15, he15, Fe15⟩ := hxs i (by omega)
    refine J.p (PR.loadH rfl he15 pl22) rfl ?_
    refine J.p (PR.move rfl) rfl ?_
    refine J.call fn45 rfl rfl fun w hH => (heldInt64S_c Fe15 (by have := totI_take_le (fs := xs) (i := i) (by omega); omega) hH).mono ?_
    rintro _ w ⟨rfl, hH⟩
    refine ⟨_, rfl, fun a hF => J.of hF hH ?_⟩
    refine J.p (PR.assign rfl) rfl ?_
    refine J.nil ?_
    refine EJ.thenN (hK7 ?_)
    refine CJ.seq fun _ hK8 _ => ?_
    refine CJ.region ?_
    refine J.p (PR.move rfl) rfl ?_
    refine J.p (PR.lss rfl rfl) rfl ?_
    refine J.nil ?_
    refine EJ.thenN (hK8 ?_)
    refine CJ.condD rfl (fun hc19 => ?_) (fun hc19 => ?_)
    ·
      refine CJ.seq fun _ hK9 _ => ?_
      refine CJ.region ?_
      refine J.p (PR.assign rfl) rfl ?_
      refine J.nil ?_
      refine EJ.thenN (hK9 ?_)
      refine CJ.ret ?_
      refine EJ.inR ?_
      refine EJ.thenR ?_
      refine EJ.thenR ?_
      refine EJ.inR ?_
      refine EJ.thenR ?_
      refine EJ.ret1 rfl (Res.tmp rfl) fun w hH => ?_
      omega
    ·
      refine CJ.skip ?_
      refine EJ.inN ?_
      refine EJ.thenN (hK6 ?_)
      refine CJ.region ?_
      refine J.p (PR.move rfl) rfl ?_
      refine J.p (PR.add rfl rfl (by first | exact nw _ (by omega) | rfl)) rfl ?_
      refine J.p (PR.assign rfl) rfl ?_
      refine J.nil ?_
      refine EJ.thenN ?_
      exact hAg0 (i + 1) (by omega) (by omega) 18 rfl rfl ⟨rfl, ⟨(vi (by rw [totI_succ (by omega)]; omega)), trivial⟩⟩ rfl rfl
  ·
    refine CJ.exit ?_
    refine EJ.thenE ?_
    refine EJ.thenE ?_
    refine EJ.inE ?_
    refine EJ.thenN (hK2 ?_)
    refine CJ.seq fun _ hK10 _ => ?_
    refine CJ.region ?_
    refine J.p (PR.move rfl) rfl ?_
    refine J.p (PR.assign rfl) rfl ?_
    refine J.nil ?_
    refine EJ.thenN (hK10 ?_)
    refine CJ.ret ?_
    refine EJ.ret1 rfl (Res.tmp rfl) fun w hH => ?_
    obtain rfl : i = xs.length := by omega
    exact ⟨by rw [List.take_length], hH⟩
end Go.Proofs.Ytpojpokldncglaa.G
namespace Go.Proofs.Ytpojpokldncglaa.G
open Go Go.RowKit
namespace Nb
theorem u2 : Try.prog.underlying 2 = some (TypeDesc.int .i64) := by kernel_rfl
theorem u22 : Try.prog.underlying 22 = some (TypeDesc.slice 2) := by kernel_rfl
theorem u27 : Try.prog.underlying 27 = some (TypeDesc.slice 88) := by kernel_rfl
theorem u29 : Try.prog.underlying 29 = some (TypeDesc.struct #[{ name := "Terms", type := 27, offset := 0, embedded := false, tag := "", pkgPath := "", byteOffset := 0 }]) := by kernel_rfl
theorem u39 : Try.prog.underlying 39 = some (TypeDesc.slice 29) := by kernel_rfl
theorem u41 : Try.prog.underlying 41 = some (TypeDesc.struct #[{ name := "Degrees", type := 22, offset := 0, embedded := false, tag := "", pkgPath := "", byteOffset := 0 }, { name := "Images", type := 39, offset := 1, embedded := false, tag := "", pkgPath := "", byteOffset := 24 }]) := by kernel_rfl
theorem u5 : Try.prog.underlying 5 = some (TypeDesc.int .u8) := by kernel_rfl
theorem u62 : Try.prog.underlying 62 = some (TypeDesc.slice 22) := by kernel_rfl
theorem u86 : Try.prog.underlying 86 = some (TypeDesc.array 8 5) := by kernel_rfl
theorem u88 : Try.prog.underlying 88 = some (TypeDesc.struct #[{ name := "Monomial", type := 86, offset := 0, embedded := false, tag := "", pkgPath := "", byteOffset := 0 }, { name := "Factor", type := 2, offset := 8, embedded := false, tag := "", pkgPath := "", byteOffset := 8 }]) := by kernel_rfl
theorem sz2 : Size Try.prog 2 1 := by unfold Size; kernel_rfl
theorem sz22 : Size Try.prog 22 1 := by unfold Size; kernel_rfl
theorem sz27 : Size Try.prog 27 1 := by unfold Size; kernel_rfl
theorem sz29 : Size Try.prog 29 1 := by unfold Size; kernel_rfl
theorem sz39 : Size Try.prog 39 1 := by unfold Size; kernel_rfl
theorem sz5 : Size Try.prog 5 1 := by unfold Size; kernel_rfl
theorem sz86 : Size Try.prog 86 8 := by unfold Size; kernel_rfl
theorem sz88 : Size Try.prog 88 9 := by unfold Size; kernel_rfl
theorem by2 : Bytes Try.prog 2 8 := by unfold Bytes; kernel_rfl
theorem by22 : Bytes Try.prog 22 24 := by unfold Bytes; kernel_rfl
theorem ze2 : Zero Try.prog 2 [.int .i64 0] := by unfold Zero; kernel_rfl
theorem ze22 : Zero Try.prog 22 [.slice none 0 0] := by unfold Zero; kernel_rfl
theorem ze88 : Zero Try.prog 88 [.int .u8 0, .int .u8 0, .int .u8 0, .int .u8 0, .int .u8 0, .int .u8 0, .int .u8 0, .int .u8 0, .int .i64 0] := by unfold Zero; kernel_rfl
theorem pl2 : Plain Try.prog 2 := ⟨_, u2, rfl⟩
theorem pl22 : Plain Try.prog 22 := ⟨_, u22, rfl⟩
theorem pl27 : Plain Try.prog 27 := ⟨_, u27, rfl⟩
theorem pl39 : Plain Try.prog 39 := ⟨_, u39, rfl⟩
theorem pl5 : Plain Try.prog 5 := ⟨_, u5, rfl⟩
theorem ag86 : Agg Try.prog 86 8 := ⟨_, u86, rfl, by kernel_rfl⟩
theorem ag88 : Agg Try.prog 88 9 := ⟨_, u88, rfl, by kernel_rfl⟩
theorem fn153 : Fn Try.prog 153 := ⟨_, Try.func153, by kernel_rfl, rfl⟩
end Nb
open Nb
structure FrmOk (ds : List Int) (fs : List (List Term)) : Prop where
  hn : ds.length ≤ 8
  ok : ∀ i, i < fs.length → isForm ds (fm fs i) = true
  wf : Wfss fs
  len : fs.length ≤ 1000000
theorem FrmOk.sok {ds : List Int} {fs : List (List Term)} (h : FrmOk ds fs) {i : Nat} (hi : i < fs.length) : Sok 20 (toS (G.fm fs i)) := isForm_sok (h.wf.fm i) (h.ok i hi)
theorem FrmOk.len4 {ds : List Int} {fs : List (List Term)} (h : FrmOk ds fs) {i : Nat} (hi : i < fs.length) : (G.fm fs i).length ≤ 400 := isForm_len4 (h.ok i hi)
theorem row_end {ts : List Term} {n k j : Nat} (h1 : j = n ∨ wrdAt ts k ≠ 1) (h2 : 0 < j → wrdAt ts k = 1) : rowJ (tm ts k).mono (tm ts k).fac (rowK ts n k) j = rowK ts n (k + 1) := by
  simp only [rowK]
  by_cases e : wrdAt ts k = 1
  · rw [if_pos e]
    rcases h1 with h1 | h1
    · rw [h1]
    · exact absurd e h1
  · rw [if_neg e]
    have : j = 0 := by
      rcases Nat.eq_zero_or_pos j with h | h
      · exact h
      · exact absurd (h2 h) e
    subst this
    rfl
section
variable {P : Program} {ops : Array Oper} {Q : Exit → Act → World → Prop} {n : Nat} {B : World} {H0 H : HP} {rest : List Oper} {us : List (Nat × Value)} {L L1 : List SA}
theorem J.fullI {g m : Nat} {e : TypeId} {xs ys : List Int} (hr : Rm L (obj g (.cells (intsC xs).toArray e (0, 0))) L1) (he : xs = ys) (hc : ys.length = m) (hm : m ≤ 1048576) (k : J P ops Q n B H0 rest us H (own e 1 (some ⟨g, 0, none⟩) m m (intsC ys) :: L1)) : J P ops Q n B H0 rest us H L := fun a w hF hH => by
  subst he
  subst hc
  exact k a w hF (own_full xs.length 1 (hH.front hr) (by simp) (by simp only [maxLen]; omega))
end
set_option maxHeartbeats 4000000 in
set_option maxRecDepth 10000 in
theorem l02Linear_c {B : World} {H0 H : HP} {L : List SA} {w : World} {qad qaf : Option Addr} {cad caf : Nat} {ad : List Int} {af : List (List Term)}  (had : Ints H qad ad) (haf : Forms H qaf af) (hF : FrmOk ad af) (hH : Hp B H0 H L w) :
    Calls Try.prog 107 [.agg [.slice qad ad.length cad, .slice qaf af.length caf].toArray].toArray w fun e w' => ∃ q c vs, e = .returned (.slice q (linT ad af).length c) ∧ Hp B H0 H (ownRs 22 2 q c vs (linT ad af) :: L) w' := by
  refine CJ.enter Try.func107 rfl 69 rfl rfl [(0, .agg [.slice qad ad.length cad, .slice qaf af.length caf].toArray)] rfl hH ?_
  clear hH
  refine CJ.seq fun _ hK1 _ => ?_
  refine CJ.region ?_
  refine J.box rfl rfl rfl fun g1 => ?_
  refine J.p (PR.assign rfl) rfl ?_
  refine J.nil ?_
  refine EJ.thenN (hK1 ?_)
  refine CJ.seq fun _ hK2 _ => ?_
  refine CJ.region ?_
  refine J.mk (MK.lit0 u62 sz22) rfl fun qo9 co9 => ?_
  refine J.is0 2 ?_
  refine J.p (PR.assign rfl) rfl ?_
  refine J.nil ?_
  refine EJ.thenN (hK2 ?_)
  refine CJ.seq fun _ hK3 _ => ?_
  refine CJ.seq fun _ hK4 _ => ?_
  refine CJ.region ?_
  refine J.p (PR.assign rfl) rfl ?_
  refine J.nil ?_
  refine EJ.thenN (hK4 ?_)
  refine CJ.block ?_
  refine CJ.loopU (σ := Option Addr × Nat × Vs × Nat) (fun ⟨q, c, vs, i⟩ => [(4, .int .i64 (i : Int)), (3, .slice q i c)]) (fun ⟨q, c, vs, i⟩ => H) (fun ⟨q, c, vs, i⟩ => ownIs 2 vs (linK2 ad af i) :: own 22 1 q i c (slicesI vs (linK2 ad af i)) :: obj g1 (.cells [.slice qad ad.length cad, .slice qaf af.length caf].toArray 41 (0, 0)) :: L) (fun ⟨q, c, vs, i⟩ => i ≤ af.length) (fun ⟨q, c, vs, i⟩ => af.length - i) (qo9, co9, nilVs, 0) (by show 0 ≤ af.length; omega) ⟨rfl, ⟨rfl, trivial⟩⟩ rfl rfl ?_
  rintro ⟨q, c, vs, i⟩ hi _ hAg0
  have hn8 := hF.hn
  have hl8 := hF.len
  refine CJ.seq fun _ hK5 _ => ?_
  refine CJ.seq fun _ hK6 _ => ?_
  refine CJ.region ?_
  refine J.p (PR.move rfl) rfl ?_
  refine J.p (PR.fldA u41 rfl sz39 rfl) rfl ?_
  refine J.p (PR.load rfl (.s (.s .z)) rfl pl39) rfl ?_
  refine J.p (PR.lenSlice u39 rfl rfl) rfl ?_
  refine J.p (PR.lss rfl rfl) rfl ?_
  refine J.nil ?_
  refine EJ.thenN (hK6 ?_)
  refine CJ.condD rfl (fun hc14 => ?_) (fun hc14 => ?_)
  ·
    refine CJ.skip ?_
    refine EJ.thenN (hK5 ?_)
    refine CJ.seq fun _ hK7 _ => ?_
    refine CJ.block ?_
    refine CJ.seq fun _ hK8 _ => ?_
    refine CJ.region ?_
    refine J.p (PR.fldA u41 rfl sz22 rfl) rfl ?_
    refine J.p (PR.load rfl (.s (.s .z)) rfl pl22) rfl ?_
    refine J.p (PR.lenSlice u22 rfl rfl) rfl ?_
    refine J.makeI u22 ze2 sz2 by2 rfl rfl rfl rfl (by omega) rfl fun g20 => ?_
    refine J.p (PR.assign rfl) rfl ?_
    refine J.nil ?_
    refine EJ.thenN (hK8 ?_)
    refine CJ.seq fun _ hK9 _ => ?_
    refine CJ.seq fun _ hK10 _ => ?_
    refine CJ.region ?_
    refine J.p (PR.assign rfl) rfl ?_
    refine J.nil ?_
    refine EJ.thenN (hK10 ?_)
    refine CJ.block ?_
    refine CJ.loopU (σ := Nat) (fun (k : Nat) => [(6, .int .i64 (k : Int))]) (fun (k : Nat) => H) (fun (k : Nat) => obj g20 (.cells (intsC (rowK (fm af i) ad.length k)).toArray 2 (0, 0)) :: ownIs 2 vs (linK2 ad af i) :: own 22 1 q i c (slicesI vs (linK2 ad af i)) :: obj g1 (.cells [.slice qad ad.length cad, .slice qaf af.length caf].toArray 41 (0, 0)) :: L) (fun (k : Nat) => k ≤ (fm af i).length) (fun (k : Nat) => (fm af i).length - k) 0 (by omega) ⟨rfl, trivial⟩ rfl rfl ?_
    rintro k hk _ hAg1
    have hl4 := hF.len4 (i := i) (by omega)
    refine CJ.seq fun _ hK11 _ => ?_
    refine CJ.seq fun _ hK12 _ => ?_
    refine CJ.region ?_
    refine J.p (PR.move rfl) rfl ?_
    refine J.p (PR.fldA u41 rfl sz39 rfl) rfl ?_
    refine J.p (PR.load rfl (.s (.s (.s .z))) rfl pl39) rfl ?_
    refine J.p (PR.move rfl) rfl ?_
    refine J.p (PR.idx1 u39 sz29 rfl rfl rfl (by omega) haf.sm) rfl ?_
    refine J.p (PR.fldP u29 rfl sz27 rfl (haf.sm (i := i) (by omega))) rfl ?_
    obtain ⟨qe27, ce27, he27, le27, Fe27⟩ := haf i (by omega)
    refine J.p (PR.loadH rfl he27 pl27) rfl ?_
    refine J.p (PR.lenSlice u27 rfl rfl) rfl ?_
    refine J.p (PR.lss rfl rfl) rfl ?_
    refine J.nil ?_
    refine EJ.thenN (hK12 ?_)
    refine CJ.condD rfl (fun hc29 => ?_) (fun hc29 => ?_)
    ·
      refine CJ.skip ?_
      refine EJ.thenN (hK11 ?_)
      refine CJ.seq fun _ hK13 _ => ?_
      refine CJ.block ?_
      refine CJ.seq fun _ hK14 _ => ?_
      refine CJ.region ?_
      refine J.p (PR.fldA u41 rfl sz39 rfl) rfl ?_
      refine J.p (PR.load rfl (.s (.s (.s .z))) rfl pl39) rfl ?_
      refine J.p (PR.move rfl) rfl ?_
      refine J.p (PR.idx1 u39 sz29 rfl rfl rfl (by omega) haf.sm) rfl ?_
      refine J.p (PR.fldP u29 rfl sz27 rfl (haf.sm (i := i) (by omega))) rfl ?_
      obtain ⟨qe37, ce37, he37, le37, Fe37⟩ := haf i (by omega)
      refine J.p (PR.loadH rfl he37 pl27) rfl ?_
      refine J.p (PR.move rfl) rfl ?_
      refine J.p (PR.idx u27 sz88 rfl rfl rfl (by omega) Fe37.sm) rfl ?_
      refine J.p (PR.loadHagg rfl (Fe37.cell _ (by omega)) (Fe37.sm (i := k) (by omega)) (by rw [Term.c_length (Fe37.wf _ (by omega))]; exact ag88)) rfl ?_
      refine J.alloc (cs := (default : Term).c) ze88 rfl fun g7 => ?_
      refine J.stTerm rfl rfl sz88 zero_wf (Fe37.wf k (by omega)) At.z ?_
      refine J.nil ?_
      refine EJ.thenN (hK14 ?_)
      refine CJ.seq fun _ hK15 _ => ?_
      refine CJ.region ?_
      refine J.p (PR.assign rfl) rfl ?_
      refine J.nil ?_
      refine EJ.thenN (hK15 ?_)
      refine CJ.block ?_
      refine CJ.loopU (σ := Nat) (fun (j : Nat) => [(8, .int .i64 (j : Int))]) (fun (j : Nat) => H) (fun (j : Nat) => obj g7 (.cells (tm (fm af i) k).c.toArray 88 (0, 0)) :: obj g20 (.cells (intsC (rowJ (tm (fm af i) k).mono (tm (fm af i) k).fac (rowK (fm af i) ad.length k) j)).toArray 2 (0, 0)) :: ownIs 2 vs (linK2 ad af i) :: own 22 1 q i c (slicesI vs (linK2 ad af i)) :: obj g1 (.cells [.slice qad ad.length cad, .slice qaf af.length caf].toArray 41 (0, 0)) :: L) (fun (j : Nat) => j ≤ ad.length ∧ (0 < j → wrdAt (fm af i) k = 1)) (fun (j : Nat) => ad.length - j) 0 ⟨by omega, fun h => absurd h (by omega)⟩ ⟨rfl, trivial⟩ rfl rfl ?_
      rintro j ⟨hj, hJ⟩ _ hAg2
      have hrl9 : (rowJ (tm (fm af i) k).mono (tm (fm af i) k).fac (rowK (fm af i) ad.length k) j).length = ad.length := by simp
      refine CJ.seq fun _ hK16 _ => ?_
      refine CJ.seq fun _ hK17 _ => ?_
      refine CJ.region ?_
      refine J.p (PR.move rfl) rfl ?_
      refine J.p (PR.fldA u41 rfl sz22 rfl) rfl ?_
      refine J.p (PR.load rfl (.s (.s (.s (.s .z)))) rfl pl22) rfl ?_
      refine J.p (PR.lenSlice u22 rfl rfl) rfl ?_
      refine J.p (PR.lss rfl rfl) rfl ?_
      refine J.p (PR.move rfl) rfl ?_
      refine J.splitB (jd := 46) rfl (fun h46 => ?_) (fun h46 => ?_)
      ·
        try have h46p := of_decide_eq_true h46
        refine J.gy (PR.fldA u88 rfl sz86 rfl) rfl rfl rfl h46 ?_
        refine J.gy (PR.ldMono rfl At.z (Fe37.wf k (by omega)) ag86) rfl rfl rfl h46 ?_
        refine J.gcall fn153 rfl rfl h46 rfl rfl fun w hH => (l02Word_c (Fe37.wf k (by omega)).mono hH).mono ?_
        rintro _ w ⟨rfl, hH⟩
        refine ⟨_, rfl, fun a hF => J.of hF hH ?_⟩
        refine J.gy (PR.eql rfl rfl) rfl rfl rfl h46 ?_
        refine J.p (PR.pickT rfl h46 rfl) rfl ?_
        refine J.nil ?_
        refine EJ.thenN (hK17 ?_)
        refine CJ.condD rfl (fun h51 => ?_) (fun h51 => ?_)
        ·
          refine CJ.skip ?_
          refine EJ.thenN (hK16 ?_)
          refine CJ.seq fun _ hK18 _ => ?_
          refine CJ.block ?_
          refine CJ.seq fun _ hK19 _ => ?_
          refine CJ.region ?_
          refine J.p (PR.move rfl) rfl ?_
          refine J.p (PR.fldA u88 rfl sz86 rfl) rfl ?_
          refine J.p (PR.idxA1 u86 sz5 rfl rfl rfl (by omega)) rfl ?_
          refine J.p (PR.ldByte rfl At.z (Fe37.wf k (by omega)) (by omega) pl5) rfl ?_
          refine J.p (PR.eql rfl rfl) rfl ?_
          refine J.nil ?_
          refine EJ.thenN (hK19 ?_)
          refine CJ.condD rfl (fun h58 => ?_) (fun h58 => ?_)
          ·
            refine CJ.region ?_
            refine J.p (PR.move rfl) rfl ?_
            refine J.p (PR.move rfl) rfl ?_
            refine J.p (PR.fldA u88 rfl sz2 rfl) rfl ?_
            refine J.p (PR.ldFac rfl At.z (Fe37.wf k (by omega)) pl2) rfl ?_
            refine J.p (PR.idxO1 u22 sz2 rfl rfl rfl (by omega)) rfl ?_
            refine J.storeI rfl rfl sz2 (by simp [*]; omega) (.s .z) ?_
            refine J.nil ?_
            refine EJ.inN ?_
            refine EJ.thenN (hK18 ?_)
            refine CJ.region ?_
            refine J.p (PR.move rfl) rfl ?_
            refine J.p (PR.add rfl rfl (by first | exact nw _ (by omega) | rfl)) rfl ?_
            refine J.p (PR.assign rfl) rfl ?_
            refine J.nil ?_
            refine EJ.thenN ?_
            exact hAg2 (j + 1) ⟨by omega, fun _ => h51⟩ (by omega) 25 rfl rfl ⟨rfl, trivial⟩ rfl (congrArg (fun x => obj g7 (.cells (tm (fm af i) k).c.toArray 88 (0, 0)) :: obj g20 (.cells (intsC x).toArray 2 (0, 0)) :: ownIs 2 vs (linK2 ad af i) :: own 22 1 q i c (slicesI vs (linK2 ad af i)) :: obj g1 (.cells [.slice qad ad.length cad, .slice qaf af.length caf].toArray 41 (0, 0)) :: L) (show _ = rowJ _ _ _ (j + 1) from (if_pos h58).symm))
          ·
            refine CJ.skip ?_
            refine EJ.inN ?_
            refine EJ.thenN (hK18 ?_)
            refine CJ.region ?_
            refine J.p (PR.move rfl) rfl ?_
            refine J.p (PR.add rfl rfl (by first | exact nw _ (by omega) | rfl)) rfl ?_
            refine J.p (PR.assign rfl) rfl ?_
            refine J.nil ?_
            refine EJ.thenN ?_
            exact hAg2 (j + 1) ⟨by omega, fun _ => h51⟩ (by omega) 20 rfl rfl ⟨rfl, trivial⟩ rfl (congrArg (fun x => obj g7 (.cells (tm (fm af i) k).c.toArray 88 (0, 0)) :: obj g20 (.cells (intsC x).toArray 2 (0, 0)) :: ownIs 2 vs (linK2 ad af i) :: own 22 1 q i c (slicesI vs (linK2 ad af i)) :: obj g1 (.cells [.slice qad ad.length cad, .slice qaf af.length caf].toArray 41 (0, 0)) :: L) (show _ = rowJ _ _ _ (j + 1) from (if_neg h58).symm))
        ·
          refine CJ.exit ?_
          refine EJ.thenE ?_
          refine EJ.thenE ?_
          refine EJ.inE ?_
          refine EJ.inN ?_
          refine EJ.thenN (hK13 ?_)
          refine CJ.region ?_
          refine J.p (PR.move rfl) rfl ?_
          refine J.p (PR.add rfl rfl (by first | exact nw _ (by omega) | rfl)) rfl ?_
          refine J.p (PR.assign rfl) rfl ?_
          refine J.nil ?_
          refine EJ.thenN ?_
          refine EJ.drop .z ?_
          exact hAg1 (k + 1) (by omega) (by omega) 36 rfl rfl ⟨rfl, trivial⟩ rfl (congrArg (fun x => obj g20 (.cells (intsC x).toArray 2 (0, 0)) :: ownIs 2 vs (linK2 ad af i) :: own 22 1 q i c (slicesI vs (linK2 ad af i)) :: obj g1 (.cells [.slice qad ad.length cad, .slice qaf af.length caf].toArray 41 (0, 0)) :: L) (row_end (.inr h51) hJ))
      ·
        try have h46p := of_decide_eq_false h46
        refine J.gn rfl rfl rfl h46 ?_
        refine J.gn rfl rfl rfl h46 ?_
        refine J.gn rfl rfl rfl h46 ?_
        refine J.gn rfl rfl rfl h46 ?_
        refine J.p (PR.pickF rfl h46 rfl) rfl ?_
        refine J.nil ?_
        refine EJ.thenN (hK17 ?_)
        refine CJ.condF rfl ?_
        refine CJ.exit ?_
        refine EJ.thenE ?_
        refine EJ.thenE ?_
        refine EJ.inE ?_
        refine EJ.inN ?_
        refine EJ.thenN (hK13 ?_)
        refine CJ.region ?_
        refine J.p (PR.move rfl) rfl ?_
        refine J.p (PR.add rfl rfl (by first | exact nw _ (by omega) | rfl)) rfl ?_
        refine J.p (PR.assign rfl) rfl ?_
        refine J.nil ?_
        refine EJ.thenN ?_
        refine EJ.drop .z ?_
        exact hAg1 (k + 1) (by omega) (by omega) 36 rfl rfl ⟨rfl, trivial⟩ rfl (congrArg (fun x => obj g20 (.cells (intsC x).toArray 2 (0, 0)) :: ownIs 2 vs (linK2 ad af i) :: own 22 1 q i c (slicesI vs (linK2 ad af i)) :: obj g1 (.cells [.slice qad ad.length cad, .slice qaf af.length caf].toArray 41 (0, 0)) :: L) (row_end (.inl (by omega)) hJ))
    ·
      refine CJ.exit ?_
      refine EJ.thenE ?_
      refine EJ.thenE ?_
      refine EJ.inE ?_
      refine EJ.thenN (hK9 ?_)
      refine CJ.region ?_
      refine J.p (PR.move rfl) rfl ?_
      have hrl : rowK (fm af i) ad.length k = linR ad (toS (fm af i)) := by rw [show k = (fm af i).length by omega]; exact rowK_lin hF.hn (hF.wf.fm i) (hF.sok (by omega))
      refine J.fullI (m := ad.length) .z hrl (linR_len _ _) (by omega) ?_
      refine J.p (PR.move rfl) rfl ?_
      refine J.mk (MK.lit1S u62 ze22 sz22 rfl rfl) rfl fun qo66 co66 => ?_
      refine J.append1 u62 ze22 sz22 by22 rfl rfl rfl rfl (by omega) .z (.s (.s .z)) (fun _ _ => (.s (.s .z))) rfl fun qo67 co67 => ?_
      refine J.p (PR.assign rfl) rfl ?_
      refine J.nil ?_
      refine EJ.inN ?_
      refine EJ.thenN (hK7 ?_)
      refine CJ.region ?_
      refine J.p (PR.move rfl) rfl ?_
      refine J.p (PR.add rfl rfl (by first | exact nw _ (by omega) | rfl)) rfl ?_
      refine J.p (PR.assign rfl) rfl ?_
      refine J.nil ?_
      refine EJ.thenN ?_
      refine EJ.front (.s (.s (.s (.s .z)))) ?_
      refine EJ.front (.s (.s (.s (.s .z)))) ?_
      refine EJ.front (.s (.s .z)) ?_
      refine EJ.front (.s (.s (.s (.s .z)))) ?_
      refine EJ.front (.s (.s (.s (.s .z)))) ?_
      refine EJ.isSnoc (rs := linK2 ad af i) (linK2_len (by omega)) (linR_len _ _) ?_
      refine EJ.drop (.s .z) ?_
      exact hAg0 (qo67, co67, setV vs i (some ⟨g20, 0, none⟩, ad.length), i + 1) (by show i + 1 ≤ af.length; omega) (by show af.length - (i + 1) < af.length - i; omega) 31 rfl rfl ⟨rfl, ⟨rfl, trivial⟩⟩ rfl (by dsimp only; rw [linK2_succ (by omega), slicesI_set (linK2_len (by omega)), linR_len])
  ·
    refine CJ.exit ?_
    refine EJ.thenE ?_
    refine EJ.thenE ?_
    refine EJ.inE ?_
    refine EJ.thenN (hK3 ?_)
    refine CJ.seq fun _ hK20 _ => ?_
    refine CJ.region ?_
    refine J.p (PR.move rfl) rfl ?_
    refine J.p (PR.assign rfl) rfl ?_
    refine J.nil ?_
    refine EJ.thenN (hK20 ?_)
    refine CJ.ret ?_
    refine EJ.ret1 rfl (Res.tmp rfl) fun w hH => ?_
    replace hH := hH.sublist (.cons_cons _ (.cons_cons _ (.cons _ (List.Sublist.refl _))))
    obtain rfl : i = af.length := by omega
    rw [linK2_end] at hH
    exact ⟨q, c, vs, by rw [linT_len], by unfold ownRs; rw [linT_len]; exact (hH.front (.s .z)).star⟩
end Go.Proofs.Ytpojpokldncglaa.G
namespace Go.Proofs.Ytpojpokldncglaa.G
open Go Go.RowKit
namespace Nc
theorem u41 : Try.prog.underlying 41 = some (TypeDesc.struct #[{ name := "Degrees", type := 22, offset := 0, embedded := false, tag := "", pkgPath := "", byteOffset := 0 }, { name := "Images", type := 39, offset := 1, embedded := false, tag := "", pkgPath := "", byteOffset := 24 }]) := by kernel_rfl
theorem ag41 : Agg Try.prog 41 2 := ⟨_, u41, rfl, by kernel_rfl⟩
theorem fn107 : Fn Try.prog 107 := ⟨_, Try.func107, by kernel_rfl, rfl⟩
theorem fn89 : Fn Try.prog 89 := ⟨_, Try.func89, by kernel_rfl, rfl⟩
end Nc
open Nc
theorem totI_le {M : Nat} : ∀ {rs : List (List Int)}, (∀ r ∈ rs, r.length ≤ M) → totI rs ≤ rs.length * M
  | [], _ => by simp [totI]
  | r :: rs, h => by
    have h1 := totI_le (rs := rs) (M := M) fun x hx => h x (by simp [hx])
    have h2 := h r (by simp)
    simp only [totI, List.length_cons]
    rw [Nat.succ_mul]
    omega
end Go.Proofs.Ytpojpokldncglaa.G
namespace Go.Proofs.Ytpojpokldncglaa.G
open Go Go.RowKit
namespace Nd
theorem u2 : Try.prog.underlying 2 = some (TypeDesc.int .i64) := by kernel_rfl
theorem u22 : Try.prog.underlying 22 = some (TypeDesc.slice 2) := by kernel_rfl
theorem u41 : Try.prog.underlying 41 = some (TypeDesc.struct #[{ name := "Degrees", type := 22, offset := 0, embedded := false, tag := "", pkgPath := "", byteOffset := 0 }, { name := "Images", type := 39, offset := 1, embedded := false, tag := "", pkgPath := "", byteOffset := 24 }]) := by kernel_rfl
theorem u62 : Try.prog.underlying 62 = some (TypeDesc.slice 22) := by kernel_rfl
theorem sz2 : Size Try.prog 2 1 := by unfold Size; kernel_rfl
theorem sz22 : Size Try.prog 22 1 := by unfold Size; kernel_rfl
theorem ze2 : Zero Try.prog 2 [.int .i64 0] := by unfold Zero; kernel_rfl
theorem pl2 : Plain Try.prog 2 := ⟨_, u2, rfl⟩
theorem pl22 : Plain Try.prog 22 := ⟨_, u22, rfl⟩
theorem ag41 : Agg Try.prog 41 2 := ⟨_, u41, rfl, by kernel_rfl⟩
theorem fn107 : Fn Try.prog 107 := ⟨_, Try.func107, by kernel_rfl, rfl⟩
theorem fn173 : Fn Try.prog 173 := ⟨_, Try.func173, by kernel_rfl, rfl⟩
theorem fn89 : Fn Try.prog 89 := ⟨_, Try.func89, by kernel_rfl, rfl⟩
end Nd
open Nd
end Go.Proofs.Ytpojpokldncglaa.G
namespace Go.Proofs.Ytpojpokldncglaa.G
open Go Go.RowKit
namespace Oa
theorem u27 : Try.prog.underlying 27 = some (TypeDesc.slice 88) := by kernel_rfl
theorem u29 : Try.prog.underlying 29 = some (TypeDesc.struct #[{ name := "Terms", type := 27, offset := 0, embedded := false, tag := "", pkgPath := "", byteOffset := 0 }]) := by kernel_rfl
theorem u39 : Try.prog.underlying 39 = some (TypeDesc.slice 29) := by kernel_rfl
theorem u41 : Try.prog.underlying 41 = some (TypeDesc.struct #[{ name := "Degrees", type := 22, offset := 0, embedded := false, tag := "", pkgPath := "", byteOffset := 0 }, { name := "Images", type := 39, offset := 1, embedded := false, tag := "", pkgPath := "", byteOffset := 24 }]) := by kernel_rfl
theorem u86 : Try.prog.underlying 86 = some (TypeDesc.array 8 5) := by kernel_rfl
theorem u88 : Try.prog.underlying 88 = some (TypeDesc.struct #[{ name := "Monomial", type := 86, offset := 0, embedded := false, tag := "", pkgPath := "", byteOffset := 0 }, { name := "Factor", type := 2, offset := 8, embedded := false, tag := "", pkgPath := "", byteOffset := 8 }]) := by kernel_rfl
theorem u94 : Try.prog.underlying 94 = some (TypeDesc.array 8 3) := by kernel_rfl
theorem sz27 : Size Try.prog 27 1 := by unfold Size; kernel_rfl
theorem sz29 : Size Try.prog 29 1 := by unfold Size; kernel_rfl
theorem sz39 : Size Try.prog 39 1 := by unfold Size; kernel_rfl
theorem sz86 : Size Try.prog 86 8 := by unfold Size; kernel_rfl
theorem sz88 : Size Try.prog 88 9 := by unfold Size; kernel_rfl
theorem by29 : Bytes Try.prog 29 24 := by unfold Bytes; kernel_rfl
theorem by88 : Bytes Try.prog 88 16 := by unfold Bytes; kernel_rfl
theorem bz29 : ∀ w, (Instr.build 29 #[]).run Try.prog w = .ok (.agg [.slice none 0 0].toArray) w := fun _ => by kernel_rfl
theorem ze29 : Zero Try.prog 29 [.slice none 0 0] := by unfold Zero; kernel_rfl
theorem ze88 : Zero Try.prog 88 [.int .u8 0, .int .u8 0, .int .u8 0, .int .u8 0, .int .u8 0, .int .u8 0, .int .u8 0, .int .u8 0, .int .i64 0] := by unfold Zero; kernel_rfl
theorem pl27 : Plain Try.prog 27 := ⟨_, u27, rfl⟩
theorem pl39 : Plain Try.prog 39 := ⟨_, u39, rfl⟩
theorem ag29 : Agg Try.prog 29 1 := ⟨_, u29, rfl, by kernel_rfl⟩
theorem ag41 : Agg Try.prog 41 2 := ⟨_, u41, rfl, by kernel_rfl⟩
theorem ag86 : Agg Try.prog 86 8 := ⟨_, u86, rfl, by kernel_rfl⟩
theorem ag88 : Agg Try.prog 88 9 := ⟨_, u88, rfl, by kernel_rfl⟩
theorem ag94 : Agg Try.prog 94 8 := ⟨_, u94, rfl, by kernel_rfl⟩
theorem fn153 : Fn Try.prog 153 := ⟨_, Try.func153, by kernel_rfl, rfl⟩
theorem fn89 : Fn Try.prog 89 := ⟨_, Try.func89, by kernel_rfl, rfl⟩
theorem foll0 : Try.prog.follows .mixedOrders = true := by kernel_rfl
end Oa
open Oa
def ofWord (n : Int) (t : Term) : Bool := decide (wrd t.mono 8 = n)
def wordsF (ts : List Term) (n : Int) : List Term := ts.filter (ofWord n)
def quads (fs : List (List Term)) : List (List Term) := fs.map fun ts => wordsF ts 2
@[simp] theorem quads_len (fs : List (List Term)) : (quads fs).length = fs.length := by simp [quads]
end Go.Proofs.Ytpojpokldncglaa.G
namespace Go.Proofs.Ytpojpokldncglaa.G
open Go Go.RowKit
namespace Ob
theorem u2 : Try.prog.underlying 2 = some (TypeDesc.int .i64) := by kernel_rfl
theorem u27 : Try.prog.underlying 27 = some (TypeDesc.slice 88) := by kernel_rfl
theorem u29 : Try.prog.underlying 29 = some (TypeDesc.struct #[{ name := "Terms", type := 27, offset := 0, embedded := false, tag := "", pkgPath := "", byteOffset := 0 }]) := by kernel_rfl
theorem u5 : Try.prog.underlying 5 = some (TypeDesc.int .u8) := by kernel_rfl
theorem u86 : Try.prog.underlying 86 = some (TypeDesc.array 8 5) := by kernel_rfl
theorem u88 : Try.prog.underlying 88 = some (TypeDesc.struct #[{ name := "Monomial", type := 86, offset := 0, embedded := false, tag := "", pkgPath := "", byteOffset := 0 }, { name := "Factor", type := 2, offset := 8, embedded := false, tag := "", pkgPath := "", byteOffset := 8 }]) := by kernel_rfl
theorem sz2 : Size Try.prog 2 1 := by unfold Size; kernel_rfl
theorem sz27 : Size Try.prog 27 1 := by unfold Size; kernel_rfl
theorem sz29 : Size Try.prog 29 1 := by unfold Size; kernel_rfl
theorem sz5 : Size Try.prog 5 1 := by unfold Size; kernel_rfl
theorem sz86 : Size Try.prog 86 8 := by unfold Size; kernel_rfl
theorem sz88 : Size Try.prog 88 9 := by unfold Size; kernel_rfl
theorem by88 : Bytes Try.prog 88 16 := by unfold Bytes; kernel_rfl
theorem bz29 : ∀ w, (Instr.build 29 #[]).run Try.prog w = .ok (.agg [.slice none 0 0].toArray) w := fun _ => by kernel_rfl
theorem ze29 : Zero Try.prog 29 [.slice none 0 0] := by unfold Zero; kernel_rfl
theorem bz86 : ∀ w, (Instr.build 86 #[]).run Try.prog w = .ok (.agg [.int .u8 0, .int .u8 0, .int .u8 0, .int .u8 0, .int .u8 0, .int .u8 0, .int .u8 0, .int .u8 0].toArray) w := fun _ => by kernel_rfl
theorem ze86 : Zero Try.prog 86 [.int .u8 0, .int .u8 0, .int .u8 0, .int .u8 0, .int .u8 0, .int .u8 0, .int .u8 0, .int .u8 0] := by unfold Zero; kernel_rfl
theorem ze88 : Zero Try.prog 88 [.int .u8 0, .int .u8 0, .int .u8 0, .int .u8 0, .int .u8 0, .int .u8 0, .int .u8 0, .int .u8 0, .int .i64 0] := by unfold Zero; kernel_rfl
theorem pl2 : Plain Try.prog 2 := ⟨_, u2, rfl⟩
theorem pl27 : Plain Try.prog 27 := ⟨_, u27, rfl⟩
theorem pl5 : Plain Try.prog 5 := ⟨_, u5, rfl⟩
theorem ag29 : Agg Try.prog 29 1 := ⟨_, u29, rfl, by kernel_rfl⟩
theorem ag86 : Agg Try.prog 86 8 := ⟨_, u86, rfl, by kernel_rfl⟩
theorem ag88 : Agg Try.prog 88 9 := ⟨_, u88, rfl, by kernel_rfl⟩
theorem bt88 : ∀ (m : List Int) (f : Int), m.length = 8 → ∀ w, (Instr.build 88 #[(0, .agg (bytesC m).toArray), (1, .int .i64 f)]).run Try.prog w = .ok (.agg ((⟨m, f⟩ : Term).c).toArray) w := fun m f hm w => by
  obtain ⟨a0, a1, a2, a3, a4, a5, a6, a7, rfl⟩ := list8_ex hm
  kernel_rfl
theorem foll0 : Try.prog.follows .mixedOrders = true := by kernel_rfl
end Ob
open Ob
end Go.Proofs.Ytpojpokldncglaa.G
namespace Go.Proofs.Ytpojpokldncglaa.G
open Go Go.RowKit
namespace Oc
theorem u2 : Try.prog.underlying 2 = some (TypeDesc.int .i64) := by kernel_rfl
theorem u22 : Try.prog.underlying 22 = some (TypeDesc.slice 2) := by kernel_rfl
theorem u29 : Try.prog.underlying 29 = some (TypeDesc.struct #[{ name := "Terms", type := 27, offset := 0, embedded := false, tag := "", pkgPath := "", byteOffset := 0 }]) := by kernel_rfl
theorem u39 : Try.prog.underlying 39 = some (TypeDesc.slice 29) := by kernel_rfl
theorem u41 : Try.prog.underlying 41 = some (TypeDesc.struct #[{ name := "Degrees", type := 22, offset := 0, embedded := false, tag := "", pkgPath := "", byteOffset := 0 }, { name := "Images", type := 39, offset := 1, embedded := false, tag := "", pkgPath := "", byteOffset := 24 }]) := by kernel_rfl
theorem sz2 : Size Try.prog 2 1 := by unfold Size; kernel_rfl
theorem sz22 : Size Try.prog 22 1 := by unfold Size; kernel_rfl
theorem sz29 : Size Try.prog 29 1 := by unfold Size; kernel_rfl
theorem sz39 : Size Try.prog 39 1 := by unfold Size; kernel_rfl
theorem sz41 : Size Try.prog 41 2 := by unfold Size; kernel_rfl
theorem by2 : Bytes Try.prog 2 8 := by unfold Bytes; kernel_rfl
theorem by29 : Bytes Try.prog 29 24 := by unfold Bytes; kernel_rfl
theorem ze2 : Zero Try.prog 2 [.int .i64 0] := by unfold Zero; kernel_rfl
theorem ze29 : Zero Try.prog 29 [.slice none 0 0] := by unfold Zero; kernel_rfl
theorem ze41 : Zero Try.prog 41 [.slice none 0 0, .slice none 0 0] := by unfold Zero; kernel_rfl
theorem pl2 : Plain Try.prog 2 := ⟨_, u2, rfl⟩
theorem pl22 : Plain Try.prog 22 := ⟨_, u22, rfl⟩
theorem pl39 : Plain Try.prog 39 := ⟨_, u39, rfl⟩
theorem ag29 : Agg Try.prog 29 1 := ⟨_, u29, rfl, by kernel_rfl⟩
theorem ag41 : Agg Try.prog 41 2 := ⟨_, u41, rfl, by kernel_rfl⟩
theorem fn89 : Fn Try.prog 89 := ⟨_, Try.func89, by kernel_rfl, rfl⟩
theorem foll0 : Try.prog.follows .mixedOrders = true := by kernel_rfl
end Oc
open Oc
def cpA (b : Nat) (fs : List (List Term)) : List (List Term) := fs.map (shF b)
@[simp] theorem cpA_len (b : Nat) (fs : List (List Term)) : (cpA b fs).length = fs.length := by simp [cpA]
theorem Wfss.app {fs gs : List (List Term)} (h : Wfss fs) (h2 : Wfss gs) : Wfss (fs ++ gs) := fun g hg => by
  rcases List.mem_append.1 hg with h1 | h1
  · exact h g h1
  · exact h2 g h1
section
variable {P : Program} {ops : Array Oper} {Q : Exit → Act → World → Prop} {n : Nat} {B : World} {H0 H : HP} {rest : List Oper} {us : List (Nat × Value)} {L L1 : List SA} {R : Act → World → Prop} {w : World}
end
end Go.Proofs.Ytpojpokldncglaa.G
namespace Go.Proofs.Ytpojpokldncglaa.G
open Go Go.RowKit
namespace Od
theorem u22 : Try.prog.underlying 22 = some (TypeDesc.slice 2) := by kernel_rfl
theorem u3 : Try.prog.underlying 3 = some (TypeDesc.int .i64) := by kernel_rfl
theorem u62 : Try.prog.underlying 62 = some (TypeDesc.slice 22) := by kernel_rfl
theorem sz2 : Size Try.prog 2 1 := by unfold Size; kernel_rfl
theorem sz22 : Size Try.prog 22 1 := by unfold Size; kernel_rfl
theorem by2 : Bytes Try.prog 2 8 := by unfold Bytes; kernel_rfl
theorem ze2 : Zero Try.prog 2 [.int .i64 0] := by unfold Zero; kernel_rfl
theorem pl22 : Plain Try.prog 22 := ⟨_, u22, rfl⟩
end Od
open Od
end Go.Proofs.Ytpojpokldncglaa.G
namespace Go.Proofs.Ytpojpokldncglaa.G
open Go Go.RowKit
namespace Oe
theorem u22 : Try.prog.underlying 22 = some (TypeDesc.slice 2) := by kernel_rfl
theorem u29 : Try.prog.underlying 29 = some (TypeDesc.struct #[{ name := "Terms", type := 27, offset := 0, embedded := false, tag := "", pkgPath := "", byteOffset := 0 }]) := by kernel_rfl
theorem u39 : Try.prog.underlying 39 = some (TypeDesc.slice 29) := by kernel_rfl
theorem u41 : Try.prog.underlying 41 = some (TypeDesc.struct #[{ name := "Degrees", type := 22, offset := 0, embedded := false, tag := "", pkgPath := "", byteOffset := 0 }, { name := "Images", type := 39, offset := 1, embedded := false, tag := "", pkgPath := "", byteOffset := 24 }]) := by kernel_rfl
theorem u62 : Try.prog.underlying 62 = some (TypeDesc.slice 22) := by kernel_rfl
theorem sz22 : Size Try.prog 22 1 := by unfold Size; kernel_rfl
theorem sz29 : Size Try.prog 29 1 := by unfold Size; kernel_rfl
theorem sz39 : Size Try.prog 39 1 := by unfold Size; kernel_rfl
theorem sz41 : Size Try.prog 41 2 := by unfold Size; kernel_rfl
theorem by29 : Bytes Try.prog 29 24 := by unfold Bytes; kernel_rfl
theorem ze22 : Zero Try.prog 22 [.slice none 0 0] := by unfold Zero; kernel_rfl
theorem ze29 : Zero Try.prog 29 [.slice none 0 0] := by unfold Zero; kernel_rfl
theorem ze41 : Zero Try.prog 41 [.slice none 0 0, .slice none 0 0] := by unfold Zero; kernel_rfl
theorem pl22 : Plain Try.prog 22 := ⟨_, u22, rfl⟩
theorem pl39 : Plain Try.prog 39 := ⟨_, u39, rfl⟩
theorem ag29 : Agg Try.prog 29 1 := ⟨_, u29, rfl, by kernel_rfl⟩
theorem ag41 : Agg Try.prog 41 2 := ⟨_, u41, rfl, by kernel_rfl⟩
theorem foll0 : Try.prog.follows .mixedOrders = true := by kernel_rfl
end Oe
open Oe
end Go.Proofs.Ytpojpokldncglaa.G
namespace Go.Proofs.Ytpojpokldncglaa.G
open Go Go.RowKit
namespace Og
theorem u22 : Try.prog.underlying 22 = some (TypeDesc.slice 2) := by kernel_rfl
theorem u41 : Try.prog.underlying 41 = some (TypeDesc.struct #[{ name := "Degrees", type := 22, offset := 0, embedded := false, tag := "", pkgPath := "", byteOffset := 0 }, { name := "Images", type := 39, offset := 1, embedded := false, tag := "", pkgPath := "", byteOffset := 24 }]) := by kernel_rfl
theorem sz2 : Size Try.prog 2 1 := by unfold Size; kernel_rfl
theorem sz41 : Size Try.prog 41 2 := by unfold Size; kernel_rfl
theorem ze2 : Zero Try.prog 2 [.int .i64 0] := by unfold Zero; kernel_rfl
theorem ze41 : Zero Try.prog 41 [.slice none 0 0, .slice none 0 0] := by unfold Zero; kernel_rfl
theorem ag41 : Agg Try.prog 41 2 := ⟨_, u41, rfl, by kernel_rfl⟩
end Og
open Og
end Go.Proofs.Ytpojpokldncglaa.G
namespace Go.Proofs.Ytpojpokldncglaa.G
open Go Go.RowKit
namespace Oh
theorem u22 : Try.prog.underlying 22 = some (TypeDesc.slice 2) := by kernel_rfl
theorem u27 : Try.prog.underlying 27 = some (TypeDesc.slice 88) := by kernel_rfl
theorem u29 : Try.prog.underlying 29 = some (TypeDesc.struct #[{ name := "Terms", type := 27, offset := 0, embedded := false, tag := "", pkgPath := "", byteOffset := 0 }]) := by kernel_rfl
theorem u39 : Try.prog.underlying 39 = some (TypeDesc.slice 29) := by kernel_rfl
theorem u41 : Try.prog.underlying 41 = some (TypeDesc.struct #[{ name := "Degrees", type := 22, offset := 0, embedded := false, tag := "", pkgPath := "", byteOffset := 0 }, { name := "Images", type := 39, offset := 1, embedded := false, tag := "", pkgPath := "", byteOffset := 24 }]) := by kernel_rfl
theorem u5 : Try.prog.underlying 5 = some (TypeDesc.int .u8) := by kernel_rfl
theorem u86 : Try.prog.underlying 86 = some (TypeDesc.array 8 5) := by kernel_rfl
theorem u88 : Try.prog.underlying 88 = some (TypeDesc.struct #[{ name := "Monomial", type := 86, offset := 0, embedded := false, tag := "", pkgPath := "", byteOffset := 0 }, { name := "Factor", type := 2, offset := 8, embedded := false, tag := "", pkgPath := "", byteOffset := 8 }]) := by kernel_rfl
theorem sz2 : Size Try.prog 2 1 := by unfold Size; kernel_rfl
theorem sz22 : Size Try.prog 22 1 := by unfold Size; kernel_rfl
theorem sz27 : Size Try.prog 27 1 := by unfold Size; kernel_rfl
theorem sz29 : Size Try.prog 29 1 := by unfold Size; kernel_rfl
theorem sz39 : Size Try.prog 39 1 := by unfold Size; kernel_rfl
theorem sz41 : Size Try.prog 41 2 := by unfold Size; kernel_rfl
theorem sz5 : Size Try.prog 5 1 := by unfold Size; kernel_rfl
theorem sz86 : Size Try.prog 86 8 := by unfold Size; kernel_rfl
theorem sz88 : Size Try.prog 88 9 := by unfold Size; kernel_rfl
theorem by29 : Bytes Try.prog 29 24 := by unfold Bytes; kernel_rfl
theorem ze2 : Zero Try.prog 2 [.int .i64 0] := by unfold Zero; kernel_rfl
theorem ze29 : Zero Try.prog 29 [.slice none 0 0] := by unfold Zero; kernel_rfl
theorem ze41 : Zero Try.prog 41 [.slice none 0 0, .slice none 0 0] := by unfold Zero; kernel_rfl
theorem pl22 : Plain Try.prog 22 := ⟨_, u22, rfl⟩
theorem pl27 : Plain Try.prog 27 := ⟨_, u27, rfl⟩
theorem pl39 : Plain Try.prog 39 := ⟨_, u39, rfl⟩
theorem pl5 : Plain Try.prog 5 := ⟨_, u5, rfl⟩
theorem ag29 : Agg Try.prog 29 1 := ⟨_, u29, rfl, by kernel_rfl⟩
theorem ag41 : Agg Try.prog 41 2 := ⟨_, u41, rfl, by kernel_rfl⟩
theorem fn75 : Fn Try.prog 75 := ⟨_, Try.func75, by kernel_rfl, rfl⟩
theorem fn83 : Fn Try.prog 83 := ⟨_, Try.func83, by kernel_rfl, rfl⟩
theorem fn86 : Fn Try.prog 86 := ⟨_, Try.func86, by kernel_rfl, rfl⟩
theorem fn89 : Fn Try.prog 89 := ⟨_, Try.func89, by kernel_rfl, rfl⟩
theorem fn91 : Fn Try.prog 91 := ⟨_, Try.func91, by kernel_rfl, rfl⟩
theorem foll0 : Try.prog.follows .mixedOrders = true := by kernel_rfl
end Oh
open Oh
def sbIn (ds : List Int) (k : Int) : Bool := decide (0 ≤ k) && decide (k ≤ (ds.length : Int))
def sbOk (ds : List Int) (fs : List (List Term)) (K : Nat) : Bool := (List.range K).all fun i => isForm (ds.take K) (fm fs i)
def sbAll (ds : List Int) (fs : List (List Term)) (k : Int) : Bool := (isAlg ds fs && sbIn ds k) && sbOk ds fs k.toNat
def sbD (ds : List Int) (fs : List (List Term)) (k : Int) : List Int := if sbAll ds fs k then ds.take k.toNat else []
def sbF (ds : List Int) (fs : List (List Term)) (k : Int) : List (List Term) := if sbAll ds fs k then fs.take k.toNat else []
def sbC (ds : List Int) (fs : List (List Term)) (k : Int) : Int := if isAlg ds fs then (if sbIn ds k then (if sbOk ds fs k.toNat then 0 else 5) else 2) else 1
theorem sb1 {ds : List Int} {fs : List (List Term)} {k : Int} (h : isAlg ds fs = false) : sbD ds fs k = [] ∧ sbF ds fs k = [] ∧ sbC ds fs k = 1 := by unfold sbD sbF sbC sbAll; rw [h]; exact ⟨rfl, rfl, rfl⟩
theorem sb2 {ds : List Int} {fs : List (List Term)} {k : Int} (h : isAlg ds fs = true) (h2 : sbIn ds k = false) : sbD ds fs k = [] ∧ sbF ds fs k = [] ∧ sbC ds fs k = 2 := by unfold sbD sbF sbC sbAll; rw [h, h2]; exact ⟨rfl, rfl, rfl⟩
theorem sb3 {ds : List Int} {fs : List (List Term)} {K i : Nat} (h : isAlg ds fs = true) (h2 : sbIn ds K = true) (hi : i < K) (h3 : isForm (ds.take K) (fm fs i) = false) : sbD ds fs K = [] ∧ sbF ds fs K = [] ∧ sbC ds fs K = 5 := by
  have h4 : sbOk ds fs (K : Int).toNat = false := List.all_eq_false.2 ⟨i, by simpa using hi, by simpa using h3⟩
  unfold sbD sbF sbC sbAll
  rw [h, h2, h4]
  exact ⟨rfl, rfl, rfl⟩
theorem Wfss.take {fs : List (List Term)} (h : Wfss fs) (k : Nat) : Wfss (fs.take k) := fun f hf => h f (List.mem_of_mem_take hf)
end Go.Proofs.Ytpojpokldncglaa.G
namespace Go.Proofs.Ytpojpokldncglaa.G
open Go Go.RowKit
namespace Oi
theorem u22 : Try.prog.underlying 22 = some (TypeDesc.slice 2) := by kernel_rfl
theorem u29 : Try.prog.underlying 29 = some (TypeDesc.struct #[{ name := "Terms", type := 27, offset := 0, embedded := false, tag := "", pkgPath := "", byteOffset := 0 }]) := by kernel_rfl
theorem u39 : Try.prog.underlying 39 = some (TypeDesc.slice 29) := by kernel_rfl
theorem u41 : Try.prog.underlying 41 = some (TypeDesc.struct #[{ name := "Degrees", type := 22, offset := 0, embedded := false, tag := "", pkgPath := "", byteOffset := 0 }, { name := "Images", type := 39, offset := 1, embedded := false, tag := "", pkgPath := "", byteOffset := 24 }]) := by kernel_rfl
theorem sz2 : Size Try.prog 2 1 := by unfold Size; kernel_rfl
theorem sz22 : Size Try.prog 22 1 := by unfold Size; kernel_rfl
theorem sz29 : Size Try.prog 29 1 := by unfold Size; kernel_rfl
theorem sz39 : Size Try.prog 39 1 := by unfold Size; kernel_rfl
theorem sz41 : Size Try.prog 41 2 := by unfold Size; kernel_rfl
theorem by2 : Bytes Try.prog 2 8 := by unfold Bytes; kernel_rfl
theorem by29 : Bytes Try.prog 29 24 := by unfold Bytes; kernel_rfl
theorem ze2 : Zero Try.prog 2 [.int .i64 0] := by unfold Zero; kernel_rfl
theorem ze29 : Zero Try.prog 29 [.slice none 0 0] := by unfold Zero; kernel_rfl
theorem ze41 : Zero Try.prog 41 [.slice none 0 0, .slice none 0 0] := by unfold Zero; kernel_rfl
theorem pl22 : Plain Try.prog 22 := ⟨_, u22, rfl⟩
theorem pl39 : Plain Try.prog 39 := ⟨_, u39, rfl⟩
theorem ag29 : Agg Try.prog 29 1 := ⟨_, u29, rfl, by kernel_rfl⟩
theorem ag41 : Agg Try.prog 41 2 := ⟨_, u41, rfl, by kernel_rfl⟩
theorem foll0 : Try.prog.follows .mixedOrders = true := by kernel_rfl
end Oi
open Oi
end Go.Proofs.Ytpojpokldncglaa.G
namespace Go.Proofs.Ytpojpokldncglaa.G
open Go Go.RowKit
namespace Oj
theorem u22 : Try.prog.underlying 22 = some (TypeDesc.slice 2) := by kernel_rfl
theorem u27 : Try.prog.underlying 27 = some (TypeDesc.slice 88) := by kernel_rfl
theorem u29 : Try.prog.underlying 29 = some (TypeDesc.struct #[{ name := "Terms", type := 27, offset := 0, embedded := false, tag := "", pkgPath := "", byteOffset := 0 }]) := by kernel_rfl
theorem u39 : Try.prog.underlying 39 = some (TypeDesc.slice 29) := by kernel_rfl
theorem u41 : Try.prog.underlying 41 = some (TypeDesc.struct #[{ name := "Degrees", type := 22, offset := 0, embedded := false, tag := "", pkgPath := "", byteOffset := 0 }, { name := "Images", type := 39, offset := 1, embedded := false, tag := "", pkgPath := "", byteOffset := 24 }]) := by kernel_rfl
theorem sz2 : Size Try.prog 2 1 := by unfold Size; kernel_rfl
theorem sz22 : Size Try.prog 22 1 := by unfold Size; kernel_rfl
theorem sz27 : Size Try.prog 27 1 := by unfold Size; kernel_rfl
theorem sz29 : Size Try.prog 29 1 := by unfold Size; kernel_rfl
theorem sz41 : Size Try.prog 41 2 := by unfold Size; kernel_rfl
theorem ze2 : Zero Try.prog 2 [.int .i64 0] := by unfold Zero; kernel_rfl
theorem ze29 : Zero Try.prog 29 [.slice none 0 0] := by unfold Zero; kernel_rfl
theorem ze41 : Zero Try.prog 41 [.slice none 0 0, .slice none 0 0] := by unfold Zero; kernel_rfl
theorem pl22 : Plain Try.prog 22 := ⟨_, u22, rfl⟩
theorem pl27 : Plain Try.prog 27 := ⟨_, u27, rfl⟩
theorem ag29 : Agg Try.prog 29 1 := ⟨_, u29, rfl, by kernel_rfl⟩
theorem ag41 : Agg Try.prog 41 2 := ⟨_, u41, rfl, by kernel_rfl⟩
theorem fn119 : Fn Try.prog 119 := ⟨_, Try.func119, by kernel_rfl, rfl⟩
theorem fn75 : Fn Try.prog 75 := ⟨_, Try.func75, by kernel_rfl, rfl⟩
theorem fn83 : Fn Try.prog 83 := ⟨_, Try.func83, by kernel_rfl, rfl⟩
theorem fn86 : Fn Try.prog 86 := ⟨_, Try.func86, by kernel_rfl, rfl⟩
theorem fn92 : Fn Try.prog 92 := ⟨_, Try.func92, by kernel_rfl, rfl⟩
theorem fn98 : Fn Try.prog 98 := ⟨_, Try.func98, by kernel_rfl, rfl⟩
end Oj
open Oj
section
variable {ds : List Int} {fs : List (List Term)} {ts : List Term} {n : Int}
end
end Go.Proofs.Ytpojpokldncglaa.G
namespace Go.Proofs.Ytpojpokldncglaa.G
open Go Go.RowKit
namespace Oq
theorem u22 : Try.prog.underlying 22 = some (TypeDesc.slice 2) := by kernel_rfl
theorem u3 : Try.prog.underlying 3 = some (TypeDesc.int .i64) := by kernel_rfl
theorem u39 : Try.prog.underlying 39 = some (TypeDesc.slice 29) := by kernel_rfl
theorem u41 : Try.prog.underlying 41 = some (TypeDesc.struct #[{ name := "Degrees", type := 22, offset := 0, embedded := false, tag := "", pkgPath := "", byteOffset := 0 }, { name := "Images", type := 39, offset := 1, embedded := false, tag := "", pkgPath := "", byteOffset := 24 }]) := by kernel_rfl
theorem sz2 : Size Try.prog 2 1 := by unfold Size; kernel_rfl
theorem sz29 : Size Try.prog 29 1 := by unfold Size; kernel_rfl
theorem sz41 : Size Try.prog 41 2 := by unfold Size; kernel_rfl
theorem by2 : Bytes Try.prog 2 8 := by unfold Bytes; kernel_rfl
theorem by29 : Bytes Try.prog 29 24 := by unfold Bytes; kernel_rfl
theorem ze2 : Zero Try.prog 2 [.int .i64 0] := by unfold Zero; kernel_rfl
theorem ze29 : Zero Try.prog 29 [.slice none 0 0] := by unfold Zero; kernel_rfl
theorem ze41 : Zero Try.prog 41 [.slice none 0 0, .slice none 0 0] := by unfold Zero; kernel_rfl
theorem ag41 : Agg Try.prog 41 2 := ⟨_, u41, rfl, by kernel_rfl⟩
theorem fn83 : Fn Try.prog 83 := ⟨_, Try.func83, by kernel_rfl, rfl⟩
theorem fn86 : Fn Try.prog 86 := ⟨_, Try.func86, by kernel_rfl, rfl⟩
theorem bd41_0_1 : ∀ (q0 : Option Addr) (m0 c0 : Nat) (q1 : Option Addr) (m1 c1 : Nat) w, (Instr.build 41 #[(0, .slice q0 m0 c0), (1, .slice q1 m1 c1)]).run Try.prog w = .ok (.agg [.slice q0 m0 c0, .slice q1 m1 c1].toArray) w := fun q0 m0 c0 q1 m1 c1 _ => by kernel_rfl
theorem foll0 : Try.prog.follows .mixedOrders = true := by kernel_rfl
end Oq
open Oq
end Go.Proofs.Ytpojpokldncglaa.G
namespace Go.Proofs.Ytpojpokldncglaa.G
open Go Go.RowKit
def cntB : Nat → Nat → Nat
  | 0, _ => 1
  | n + 1, s => ((List.range (s + 1)).map (cntB n)).sum
theorem sum_ind (g : Nat → Nat) (k : Nat) : ∀ N : Nat, ((List.range N).map fun e => g e + if k = e then 1 else 0).sum = ((List.range N).map g).sum + if k < N then 1 else 0
  | 0 => rfl
  | N + 1 => by
    rw [List.range_succ, List.map_append, List.map_append, List.sum_append, List.sum_append, sum_ind g k N]
    simp only [List.map_cons, List.map_nil, List.sum_cons, List.sum_nil]
    by_cases h1 : k = N
    · rw [if_pos h1, if_neg (by omega), if_pos (by omega)]; omega
    · by_cases h2 : k < N
      · rw [if_pos h2, if_neg h1, if_pos (by omega)]; omega
      · rw [if_neg h2, if_neg h1, if_neg (by omega)]; omega
theorem part_len {α : Type} (f : α → Nat) (N : Nat) : ∀ l : List α, (∀ x ∈ l, f x < N) → l.length = ((List.range N).map fun e => (l.filter fun x => decide (f x = e)).length).sum
  | [], _ => by
    simp only [List.filter_nil, List.length_nil]
    generalize List.range N = r
    induction r with
    | nil => rfl
    | cons a r ih => simpa using ih
  | x :: l, h => by
    have ih := part_len f N l fun y hy => h y (by simp [hy])
    have h0 := h x (by simp)
    have e : (fun e => ((x :: l).filter fun x => decide (f x = e)).length) = fun e => (l.filter fun x => decide (f x = e)).length + if f x = e then 1 else 0 := by
      funext e
      rw [List.filter_cons]
      by_cases h1 : f x = e
      · rw [if_pos (by simpa using h1), if_pos h1]; rfl
      · rw [if_neg (by simpa using h1), if_neg h1]; rfl
    rw [e, sum_ind, if_pos h0, List.length_cons, ← ih]
theorem sum_map_le {f g : Nat → Nat} : ∀ l : List Nat, (∀ e ∈ l, f e ≤ g e) → (l.map f).sum ≤ (l.map g).sum
  | [], _ => Nat.le_refl _
  | a :: l, h => by
    have h1 := sum_map_le l fun e he => h e (by simp [he])
    have h2 := h a (by simp)
    simp only [List.map_cons, List.sum_cons]
    omega
theorem cnt_le : ∀ (n s : Nat) (l : List (List Int)), l.Nodup → (∀ p ∈ l, p.length = n ∧ (∀ x ∈ p, 0 ≤ x) ∧ p.sum ≤ (s : Int)) → l.length ≤ cntB n s
  | 0, s, l, hn, h => by
    match l, hn, h with
    | [], _, _ => simp [cntB]
    | [_], _, _ => simp [cntB]
    | a :: b :: l, hn, h =>
      have h1 := (h a (by simp)).1
      have h2 := (h b (by simp)).1
      have e1 : a = [] := List.eq_nil_of_length_eq_zero h1
      have e2 : b = [] := List.eq_nil_of_length_eq_zero h2
      subst e1
      subst e2
      simp at hn
  | n + 1, s, l, hn, h => by
    have hk : ∀ p ∈ l, ((s : Int) - p.headD 0).toNat < s + 1 := fun p hp => by
      obtain ⟨h1, h2, _⟩ := h p hp
      cases p with
      | nil => simp at h1
      | cons x p => have := h2 x (by simp); simp only [List.headD_cons]; omega
    rw [part_len (fun p => ((s : Int) - p.headD 0).toNat) (s + 1) l hk]
    simp only [cntB]
    refine sum_map_le _ fun e he => ?_
    have he' : e < s + 1 := List.mem_range.1 he
    have hm : ∀ p ∈ l.filter (fun p => decide (((s : Int) - p.headD 0).toNat = e)), p.headD 0 = (s : Int) - e ∧ p ∈ l := fun p hp => by
      obtain ⟨h1, h2⟩ := List.mem_filter.1 hp
      obtain ⟨h3, h4, h5⟩ := h p h1
      refine ⟨?_, h1⟩
      have h6 := of_decide_eq_true h2
      cases p with
      | nil => simp at h3
      | cons x p =>
        have hx := h4 x (by simp)
        have h7 : 0 ≤ p.sum := by
          have h8 : ∀ y ∈ p, 0 ≤ y := fun y hy => h4 y (by simp [hy])
          clear h2 h6 h1 h3 h4 h5 hp
          induction p with
          | nil => simp
          | cons y p ih =>
            have := h8 y (by simp)
            have := ih fun z hz => h8 z (by simp [hz])
            simp only [List.sum_cons]
            omega
        simp only [List.sum_cons] at h5
        simp only [List.headD_cons] at h6 ⊢
        omega
    have h9 := cnt_le n e ((l.filter (fun p => decide (((s : Int) - p.headD 0).toNat = e))).map List.tail) (by
      rw [List.Nodup, List.pairwise_map]
      refine (hn.sublist List.filter_sublist).imp_of_mem fun {a b} ha hb hab e1 => ?_
      obtain ⟨a1, a2⟩ := hm a ha
      obtain ⟨b1, b2⟩ := hm b hb
      have la := (h a a2).1
      have lb := (h b b2).1
      cases a with
      | nil => simp at la
      | cons x a =>
        cases b with
        | nil => simp at lb
        | cons y b =>
          simp only [List.headD_cons] at a1 b1
          simp only [List.tail_cons] at e1
          exact hab (by rw [a1, b1, e1])) (fun p hp => by
      obtain ⟨q, hq, rfl⟩ := List.mem_map.1 hp
      obtain ⟨q1, q2⟩ := hm q hq
      obtain ⟨h3, h4, h5⟩ := h q q2
      cases q with
      | nil => simp at h3
      | cons x q =>
        simp only [List.headD_cons] at q1
        simp only [List.sum_cons] at h5
        simp only [List.tail_cons]
        exact ⟨by simpa using h3, fun y hy => h4 y (by simp [hy]), by omega⟩)
    rw [List.length_map] at h9
    exact h9
def cntR (n : Nat) : List Nat := (List.range 14).map (cntB n)
def cntX (l : List Nat) : List Nat := (List.range 14).map fun s => (l.take (s + 1)).sum
theorem cntR_succ (n : Nat) : cntR (n + 1) = cntX (cntR n) := by
  unfold cntR cntX
  refine List.map_congr_left fun s hs => ?_
  have h1 : s < 14 := List.mem_range.1 hs
  rw [← List.map_take, List.take_range, Nat.min_eq_left (by omega)]
  rfl
theorem cntR_8 : cntR 8 = [1, 9, 45, 165, 495, 1287, 3003, 6435, 12870, 24310, 43758, 75582, 125970, 203490] := by
  have h0 : cntR 0 = List.replicate 14 1 := by rfl
  rw [cntR_succ, cntR_succ, cntR_succ, cntR_succ, cntR_succ, cntR_succ, cntR_succ, cntR_succ, h0]
  rfl
theorem cnt8 {s : Nat} (hs : s ≤ 13) : cntB 8 s = [1, 9, 45, 165, 495, 1287, 3003, 6435, 12870, 24310, 43758, 75582, 125970, 203490].getD s 0 := by
  rw [← cntR_8]
  unfold cntR
  rw [List.getD_eq_getElem?_getD, List.getElem?_map, List.getElem?_range (by omega)]
  rfl
theorem cnt_prod {s t : Nat} (h : s + t ≤ 13) : cntB 8 s * cntB 8 t ≤ 1000000000 ∧ cntB 8 s ≤ 1000000 := by
  have h1 : ∀ s, s < 14 → ∀ t, t < 14 → s + t ≤ 13 → [1, 9, 45, 165, 495, 1287, 3003, 6435, 12870, 24310, 43758, 75582, 125970, 203490].getD s 0 * [1, 9, 45, 165, 495, 1287, 3003, 6435, 12870, 24310, 43758, 75582, 125970, 203490].getD t 0 ≤ 1000000000 ∧ [1, 9, 45, 165, 495, 1287, 3003, 6435, 12870, 24310, 43758, 75582, 125970, 203490].getD s 0 ≤ 1000000 := by decide
  rw [cnt8 (by omega), cnt8 (by omega)]
  exact h1 s (by omega) t (by omega) h
theorem wrd_sum {p : List Int} (h : p.length = 8) : wrd p 8 = p.sum := by
  obtain ⟨a0, a1, a2, a3, a4, a5, a6, a7, rfl⟩ := list8_ex h
  simp only [wrd, List.sum_cons, List.sum_nil, List.getD_cons_zero, List.getD_cons_succ]
  omega
theorem mem_get {p : List Int} {x : Int} (h : x ∈ p) : ∃ j, x = p.getD j 0 := by
  obtain ⟨j, hj, rfl⟩ := List.mem_iff_getElem.1 h
  exact ⟨j, by rw [List.getD_eq_getElem?_getD, List.getElem?_eq_getElem hj]; rfl⟩
theorem sok_len {M : Int} {t : Sm} {s : Nat} (h : Sok M t) (hw : ∀ x ∈ t, wrd x.1 8 ≤ (s : Int)) : t.length ≤ cntB 8 s := by
  have := cnt_le 8 s (t.map (·.1)) h.nodup (fun p hp => by
    obtain ⟨x, hx, rfl⟩ := List.mem_map.1 hp
    have hk := h.key x hx
    refine ⟨hk.len, fun y hy => ?_, by rw [← wrd_sum hk.len]; exact hw x hx⟩
    obtain ⟨j, rfl⟩ := mem_get hy
    exact (hk.bd j).1)
  rwa [List.length_map] at this
end Go.Proofs.Ytpojpokldncglaa.G
namespace Go.Proofs.Ytpojpokldncglaa.G
open Go Go.RowKit
def Mo (a b : Int) : Prop := a % 10007 = b % 10007
theorem Mo.refl (a : Int) : Mo a a := rfl
theorem Mo.symm {a b : Int} (h : Mo a b) : Mo b a := Eq.symm h
theorem Mo.trans {a b c : Int} (h : Mo a b) (k : Mo b c) : Mo a c := Eq.trans h k
theorem Mo.add {a b c d : Int} (h : Mo a b) (k : Mo c d) : Mo (a + c) (b + d) := by unfold Mo at *; omega
theorem Mo.mul {a b : Int} (h : Mo a b) (c : Int) : Mo (a * c) (b * c) := by
  unfold Mo at *
  rw [Int.mul_emod, h, ← Int.mul_emod]
theorem Mo.mull {a b : Int} (h : Mo a b) (c : Int) : Mo (c * a) (c * b) := by
  rw [Int.mul_comm c a, Int.mul_comm c b]
  exact h.mul c
theorem Mo.fld (a : Int) : Mo (G.fld a) a := by unfold Mo; rw [fld_eq]; omega
theorem Mo.tmod (a : Int) : Mo (a.tmod 10007) a := by
  obtain ⟨r, h⟩ := tmod_p a
  unfold Mo
  rw [h]
  omega
theorem Mo.eq {a b : Int} (h : Mo a b) : G.fld a = G.fld b := by rw [fld_eq, fld_eq]; exact h
def wG (G : Pw → Int) : Sm → Int
  | [] => 0
  | x :: s => x.2 * G x.1 + wG G s
theorem wG_addS (G : Pw → Int) (p : Pw) (k : Int) : ∀ s : Sm, Mo (wG G (addS s p k)) (wG G s + k * G p)
  | [] => by
    simp only [addS]
    split
    · rename_i h
      have h1 := (Mo.fld k).symm.mul (G p)
      rw [h] at h1
      simp only [wG]
      unfold Mo at h1 ⊢
      rw [Int.zero_mul] at h1
      omega
    · have h1 := (Mo.fld k).mul (G p)
      simp only [wG]
      unfold Mo at h1 ⊢
      omega
  | x :: s => by
    have ih := wG_addS G p k s
    simp only [addS]
    split
    · rename_i e
      have h1 := (Mo.fld (x.2 + k)).mul (G p)
      rw [Int.add_mul] at h1
      split
      · rename_i h
        rw [h, Int.zero_mul] at h1
        simp only [wG]
        rw [← e]
        unfold Mo at h1 ⊢
        omega
      · simp only [wG]
        rw [← e]
        unfold Mo at h1 ⊢
        omega
    · split
      · split
        · rename_i h
          have h1 := (Mo.fld k).symm.mul (G p)
          rw [h, Int.zero_mul] at h1
          simp only [wG]
          unfold Mo at h1 ⊢
          omega
        · have h1 := (Mo.fld k).mul (G p)
          simp only [wG]
          unfold Mo at h1 ⊢
          omega
      · simp only [wG]
        unfold Mo at ih ⊢
        omega
theorem wG_acc (G : Pw → Int) : ∀ l s : Sm, Mo (wG G (acc s l)) (wG G s + wG G l)
  | [], s => by simp [acc_nil, wG, Mo]
  | x :: l, s => by
    rw [acc_cons]
    have h1 := wG_acc G l (addS s x.1 x.2)
    have h2 := wG_addS G x.1 x.2 s
    simp only [wG]
    unfold Mo at h1 h2 ⊢
    omega
theorem wG_scl (G : Pw → Int) (k : Int) : ∀ s : Sm, Mo (wG G (scl s k)) (k * wG G s)
  | [] => by simp [scl, wG, Mo]
  | x :: s => by
    have ih := wG_scl G k s
    have h1 := (Mo.tmod (x.2 * k)).mul (G x.1)
    have e : scl (x :: s) k = (x.1, (x.2 * k).tmod 10007) :: scl s k := rfl
    rw [e]
    simp only [wG]
    have e2 : k * (x.2 * G x.1 + wG G s) = x.2 * k * G x.1 + k * wG G s := by rw [Int.mul_add, ← Int.mul_assoc, Int.mul_comm k x.2]
    rw [e2]
    exact h1.add ih
def ind (p q : Pw) : Int := if q = p then 1 else 0
theorem tot_ind (p : Pw) : ∀ s : Sm, tot_ s p = wG (ind p) s
  | [] => rfl
  | x :: s => by
    simp only [tot_, wG, ind]
    rw [tot_ind p s]
    split <;> simp [ind]
def gT (ds : Pw) (p : Pw) : Sm → Pw → Int
  | [], _ => 0
  | y :: t, q => (if sgn ds q y.1 = 0 then 0 else (if addp q y.1 = p then sgn ds q y.1 * y.2 else 0)) + gT ds p t q
theorem tot_mul1 (ds : Pw) (p : Pw) (x : Pw × Int) : ∀ t : Sm, Mo (tot_ (mul1 ds x t) p) (x.2 * gT ds p t x.1)
  | [] => by simp [mul1, tot_, gT, Mo]
  | y :: t => by
    have ih := tot_mul1 ds p x t
    have e : mul1 ds x (y :: t) = (if sgn ds x.1 y.1 = 0 then [] else [(addp x.1 y.1, (sgn ds x.1 y.1 * x.2 * y.2).tmod 10007)]) ++ mul1 ds x t := by
      unfold mul1
      rw [List.flatMap_cons]
    rw [e, totS_app]
    simp only [gT]
    rw [Int.mul_add]
    refine Mo.add ?_ ih
    by_cases h : sgn ds x.1 y.1 = 0
    · rw [if_pos h, if_pos h]
      simp [tot_, Mo]
    · rw [if_neg h, if_neg h]
      simp only [tot_]
      by_cases h2 : addp x.1 y.1 = p
      · rw [if_pos h2, if_pos h2, Int.add_zero]
        have e2 : x.2 * (sgn ds x.1 y.1 * y.2) = sgn ds x.1 y.1 * x.2 * y.2 := by rw [← Int.mul_assoc, Int.mul_comm x.2]
        rw [e2]
        exact Mo.tmod _
      · rw [if_neg h2, if_neg h2]
        simp [Mo]
theorem tot_mulL (ds : Pw) (p : Pw) (t : Sm) : ∀ s : Sm, Mo (tot_ (mulL ds s t) p) (wG (gT ds p t) s)
  | [] => by simp [mulL, tot_, wG, Mo]
  | x :: s => by
    have ih := tot_mulL ds p t s
    have e : mulL ds (x :: s) t = mul1 ds x t ++ mulL ds s t := by unfold mulL; rw [List.flatMap_cons]
    rw [e, totS_app]
    simp only [wG]
    exact (tot_mul1 ds p x t).add ih
theorem Sok.sclA {M : Int} {s : Sm} (h : Sok M s) (c : Int) : Sok M (G.acc [] (scl s c)) := Sok.nil.acc (scl_pok h c)
theorem times_scl {ds : Pw} {s t : Sm} {M N : Int} (hs : Sok M s) (ht : Sok N t) (c : Int) : timesS ds (acc [] (scl s c)) t = acc [] (scl (timesS ds s t) c) := by
  have h1 := hs.sclA c
  have h2 := hs.times ht (ds := ds)
  refine Sok.ext (h1.times ht (ds := ds)) (h2.sclA c) fun p => ?_
  rw [show timesS ds (acc [] (scl s c)) t = acc [] (mulL ds (acc [] (scl s c)) t) from rfl, cf_acc p Sok.nil (mulL_pok h1 ht), cf_acc p Sok.nil (scl_pok h2 c)]
  refine Mo.eq (Mo.add (Mo.refl _) ?_)
  have a1 := tot_mulL ds p t (acc [] (scl s c))
  have a2 := wG_acc (gT ds p t) (scl s c) []
  have a3 := wG_scl (gT ds p t) c s
  have b1 := wG_scl (ind p) c (timesS ds s t)
  rw [← tot_ind] at b1
  have b2 := (wG_acc (ind p) (mulL ds s t) []).mull c
  have b3 := tot_mulL ds p t s
  rw [tot_ind] at b3
  have b4 := b3.mull c
  simp only [wG, Int.zero_add] at a2 b2
  exact a1.trans (a2.trans (a3.trans (b4.symm.trans (b2.symm.trans b1.symm))))
theorem acc_scl1 {out u : Sm} {M : Int} (ho : Sok M out) (hu : Sok M u) (c : Int) : acc out (scl (acc [] (scl u c)) 1) = acc out (scl u c) := by
  have h1 := hu.sclA c
  refine Sok.ext (ho.acc (scl_pok h1 1)) (ho.acc (scl_pok hu c)) fun p => ?_
  rw [cf_acc p ho (scl_pok h1 1), cf_acc p ho (scl_pok hu c)]
  refine Mo.eq (Mo.add (Mo.refl _) ?_)
  rw [tot_ind, tot_ind]
  have a1 := wG_scl (ind p) 1 (acc [] (scl u c))
  have a2 := wG_acc (ind p) (scl u c) []
  rw [Int.one_mul] at a1
  simp only [wG, Int.zero_add] at a2
  exact a1.trans a2
def zP : Pw := List.replicate 8 0
def oneS : Sm := [(zP, 1)]
def pwS (ds : Pw) (s : Sm) : Nat → Sm
  | 0 => oneS
  | e + 1 => timesS ds (pwS ds s e) s
def prS (ds : Pw) (ss : Nat → Sm) (p : Pw) (u : Sm) : Nat → Sm
  | 0 => u
  | i + 1 => if 0 < p.getD i 0 then timesS ds (prS ds ss p u i) (pwS ds (ss i) (p.getD i 0).toNat) else prS ds ss p u i
def leadL (ds : Pw) (ss : Nat → Sm) (n : Nat) (s : Sm) : Sm := s.flatMap fun x => scl (prS ds ss x.1 oneS n) x.2
def leadS (ds : Pw) (ss : Nat → Sm) (n : Nat) (s : Sm) : Sm := acc [] (leadL ds ss n s)
theorem zP_get (j : Nat) : zP.getD j 0 = 0 := by
  unfold zP
  rw [List.getD_eq_getElem?_getD, List.getElem?_replicate]
  split <;> rfl
theorem zP_pok {M : Int} (hM : 0 ≤ M) : Pok M zP := ⟨by simp [zP], fun j => by rw [zP_get]; omega⟩
theorem zP_ex (ds : Pw) : Ex ds zP := ⟨fun i _ => zP_get i, fun i _ _ => by rw [zP_get]; omega⟩
theorem wsum_add {ds p q : Pw} (hp : p.length = 8) (hq : q.length = 8) : ∀ n : Nat, wsum ds (addp p q) n = wsum ds p n + wsum ds q n
  | 0 => rfl
  | n + 1 => by
    simp only [wsum]
    rw [wsum_add hp hq n, addp_get hp hq, Int.mul_add]
    omega
structure Dg (ds : Pw) : Prop where
  hn : ds.length ≤ 8
  pos : ∀ j, j < ds.length → 1 ≤ ds.getD j 0
  hd : ∀ j, 0 ≤ ds.getD j 0 ∧ ds.getD j 0 ≤ 12
theorem Dg.of {ds : Pw} (h : isDeg ds = true) : Dg ds := ⟨isDeg_len h, isDeg_pos1 h, isDeg_bd h⟩
theorem wrd_le {ds p : Pw} (hd : Dg ds) (hp : ∀ j, 0 ≤ p.getD j 0) : ∀ n : Nat, n ≤ ds.length → wrd p n ≤ wsum ds p n
  | 0, _ => by simp [wrd, wsum]
  | n + 1, h => by
    have ih := wrd_le hd hp n (by omega)
    have h1 := hd.pos n (by omega)
    have h2 := hp n
    have h3 : 1 * p.getD n 0 ≤ ds.getD n 0 * p.getD n 0 := Int.mul_le_mul_of_nonneg_right h1 h2
    simp only [wrd, wsum]
    omega
theorem wrd_out {ds p : Pw} (hz : ∀ j, ds.length ≤ j → p.getD j 0 = 0) : ∀ d : Nat, wrd p (ds.length + d) = wrd p ds.length
  | 0 => rfl
  | d + 1 => by
    show wrd p (ds.length + d) + p.getD (ds.length + d) 0 = _
    rw [wrd_out hz d, hz _ (by omega)]
    omega
theorem wrd_w {ds p : Pw} (hd : Dg ds) (hp : ∀ j, 0 ≤ p.getD j 0) (hx : Ex ds p) : wrd p 8 ≤ wsum ds p ds.length := by
  have h1 := wrd_out hx.out (8 - ds.length)
  have := hd.hn
  rw [show ds.length + (8 - ds.length) = 8 by omega] at h1
  rw [h1]
  exact wrd_le hd hp _ (Nat.le_refl _)
theorem get_wrd {p : Pw} (hp : ∀ j, 0 ≤ p.getD j 0) : ∀ n j : Nat, j < n → p.getD j 0 ≤ wrd p n
  | 0, j, h => by omega
  | n + 1, j, h => by
    have h2 := hp n
    have h3 := wrd_nn hp n
    simp only [wrd]
    by_cases e : j = n
    · subst e; omega
    · have := get_wrd hp n j (by omega)
      omega
structure Ws (ds : Pw) (d : Int) (t : Sm) : Prop where
  sok : Sok 13 t
  kex : KEx ds t
  wt : ∀ x ∈ t, wsum ds x.1 ds.length = d
theorem Ws.of {ds : Pw} {d M : Int} {t : Sm} (hd : Dg ds) (h : Sok M t) (hk : KEx ds t) (hw : ∀ x ∈ t, wsum ds x.1 ds.length = d) (h13 : d ≤ 13) : Ws ds d t := by
  refine ⟨⟨h.srt, fun x hx => ?_, h.val⟩, hk, hw⟩
  have hp := h.key x hx
  refine ⟨hp.len, fun j => ⟨(hp.bd j).1, ?_⟩⟩
  have h1 := wrd_w hd (fun j => (hp.bd j).1) (hk x hx)
  have h2 := hw x hx
  rcases Nat.lt_or_ge j 8 with hj | hj
  · have := get_wrd (fun j => (hp.bd j).1) 8 j hj
    omega
  · rw [getD_ge (by rw [hp.len]; omega)]
    omega
theorem Ws.one {ds : Pw} {c : Int} (hc : 1 ≤ c ∧ c ≤ 10006) : Ws ds 0 [(zP, c)] := by
  refine ⟨Sok.one (zP_pok (by omega)) hc, fun x hx => ?_, fun x hx => ?_⟩
  · rw [List.mem_singleton.1 hx]; exact zP_ex ds
  · rw [List.mem_singleton.1 hx]; exact wsum_zero zP_get _
theorem Ws.times {ds : Pw} {a b : Int} {s t : Sm} (hd : Dg ds) (hs : Ws ds a s) (ht : Ws ds b t) (h : a + b ≤ 13) : Ws ds (a + b) (timesS ds s t) := by
  refine Ws.of hd (hs.sok.times ht.sok) (times_kex hs.sok.g ht.sok.g hs.kex ht.kex) (fun x hx => ?_) h
  rcases acc_mem hx with h1 | ⟨y, hy, e⟩
  · simp at h1
  · obtain ⟨u, hu, v, hv, _, e2⟩ := mulL_mem hy
    rw [e, e2, wsum_add (hs.sok.key u hu).len (ht.sok.key v hv).len, hs.wt u hu, ht.wt v hv]
theorem Ws.pw {ds : Pw} {d : Int} {s : Sm} (hd : Dg ds) (hs : Ws ds d s) (h0 : 0 ≤ d) : ∀ e : Nat, (e : Int) * d ≤ 13 → Ws ds ((e : Int) * d) (pwS ds s e)
  | 0, _ => by
    have := Ws.one (ds := ds) (c := 1) (by omega)
    simpa [pwS, oneS] using this
  | e + 1, h => by
    have e1 : ((e + 1 : Nat) : Int) * d = (e : Int) * d + d := by rw [Int.natCast_add, Int.add_mul]; simp
    rw [e1] at h ⊢
    exact (Ws.pw hd hs h0 e (by omega)).times hd hs h
theorem Ws.pr {ds ws : Pw} {ss : Nat → Sm} {p : Pw} {u : Sm} {a : Int} (hd : Dg ds) (hw : ∀ j, 0 ≤ ws.getD j 0) (hp : ∀ j, 0 ≤ p.getD j 0) (hu : Ws ds a u) (h0 : 0 ≤ a) : ∀ n : Nat, (∀ j, j < n → Ws ds (ws.getD j 0) (ss j)) → a + wsum ws p n ≤ 13 → Ws ds (a + wsum ws p n) (prS ds ss p u n)
  | 0, _, _ => by simpa [prS, wsum] using hu
  | n + 1, hs, h => by
    have hm : 0 ≤ ws.getD n 0 * p.getD n 0 := Int.mul_nonneg (hw n) (hp n)
    have hws : ∀ k : Nat, 0 ≤ wsum ws p k := fun k => by
      induction k with
      | zero => simp [wsum]
      | succ k ih => have := Int.mul_nonneg (hw k) (hp k); simp only [wsum]; omega
    have h2 := hws n
    simp only [wsum] at h ⊢
    have ih := Ws.pr hd hw hp hu h0 n (fun j hj => hs j (by omega)) (by omega)
    simp only [prS]
    split
    · rename_i hpos
      have e1 : ((p.getD n 0).toNat : Int) = p.getD n 0 := by omega
      have hpw := (hs n (by omega)).pw hd (hw n) (p.getD n 0).toNat (by rw [e1, Int.mul_comm]; omega)
      have h3 := ih.times hd hpw (by rw [e1, Int.mul_comm (p.getD n 0)]; omega)
      rw [e1, Int.mul_comm (p.getD n 0)] at h3
      rw [← Int.add_assoc]
      exact h3
    · rename_i hpos
      have : p.getD n 0 = 0 := by have := hp n; omega
      rw [this, Int.mul_zero, Int.add_zero]
      exact ih
theorem Ws.len {ds : Pw} {d : Int} {t : Sm} (hd : Dg ds) (h : Ws ds d t) (h0 : 0 ≤ d) : t.length ≤ cntB 8 d.toNat := sok_len h.sok fun x hx => by
  have := wrd_w hd (fun j => ((h.sok.key x hx).bd j).1) (h.kex x hx)
  have := h.wt x hx
  omega
theorem Ws.lens {ds : Pw} {a b : Int} {s t : Sm} (hd : Dg ds) (hs : Ws ds a s) (ht : Ws ds b t) (ha : 0 ≤ a) (hb : 0 ≤ b) (h : a + b ≤ 13) : s.length * t.length ≤ 1000000000 ∧ s.length ≤ 1000000 := by
  have h1 := hs.len hd ha
  have h2 := ht.len hd hb
  have h3 := cnt_prod (s := a.toNat) (t := b.toNat) (by omega)
  exact ⟨Nat.le_trans (Nat.mul_le_mul h1 h2) h3.1, by omega⟩
theorem pr_scl {ds ws : Pw} {ss : Nat → Sm} {p : Pw} {u : Sm} {a : Int} (hd : Dg ds) (hw : ∀ j, 0 ≤ ws.getD j 0) (hp : ∀ j, 0 ≤ p.getD j 0) (hu : Ws ds a u) (h0 : 0 ≤ a) (c : Int) : ∀ n : Nat, (∀ j, j < n → Ws ds (ws.getD j 0) (ss j)) → a + wsum ws p n ≤ 13 → prS ds ss p (acc [] (scl u c)) n = acc [] (scl (prS ds ss p u n) c)
  | 0, _, _ => rfl
  | n + 1, hs, h => by
    have hm : 0 ≤ ws.getD n 0 * p.getD n 0 := Int.mul_nonneg (hw n) (hp n)
    have hws : ∀ k : Nat, 0 ≤ wsum ws p k := fun k => by
      induction k with
      | zero => simp [wsum]
      | succ k ih => have := Int.mul_nonneg (hw k) (hp k); simp only [wsum]; omega
    have h2 := hws n
    simp only [wsum] at h
    have ih := pr_scl hd hw hp hu h0 c n (fun j hj => hs j (by omega)) (by omega)
    simp only [prS]
    rw [ih]
    split
    · rename_i hpos
      have e1 : ((p.getD n 0).toNat : Int) = p.getD n 0 := by omega
      have h3 := Ws.pr hd hw hp hu h0 n (fun j hj => hs j (by omega)) (by omega)
      have hpw := (hs n (by omega)).pw hd (hw n) (p.getD n 0).toNat (by rw [e1, Int.mul_comm]; omega)
      exact times_scl h3.sok hpw.sok c
    · rfl
theorem one_scl {c : Int} (hc : 1 ≤ c ∧ c ≤ 10006) : addS [] zP c = acc [] (scl oneS c) := by
  unfold oneS scl
  simp only [List.map_cons, List.map_nil, acc_cons, acc_nil, Int.one_mul]
  exact addS_congr (fun a => (fld_tmod a c).symm) zP []
end Go.Proofs.Ytpojpokldncglaa.G
namespace Go.Proofs.Ytpojpokldncglaa.G
open Go Go.RowKit
namespace Qc
theorem u29 : Try.prog.underlying 29 = some (TypeDesc.struct #[{ name := "Terms", type := 27, offset := 0, embedded := false, tag := "", pkgPath := "", byteOffset := 0 }]) := by kernel_rfl
theorem sz29 : Size Try.prog 29 1 := by unfold Size; kernel_rfl
theorem ze29 : Zero Try.prog 29 [.slice none 0 0] := by unfold Zero; kernel_rfl
theorem bz86 : ∀ w, (Instr.build 86 #[]).run Try.prog w = .ok (.agg [.int .u8 0, .int .u8 0, .int .u8 0, .int .u8 0, .int .u8 0, .int .u8 0, .int .u8 0, .int .u8 0].toArray) w := fun _ => by kernel_rfl
theorem ag29 : Agg Try.prog 29 1 := ⟨_, u29, rfl, by kernel_rfl⟩
theorem fn148 : Fn Try.prog 148 := ⟨_, Try.func148, by kernel_rfl, rfl⟩
theorem fn149 : Fn Try.prog 149 := ⟨_, Try.func149, by kernel_rfl, rfl⟩
end Qc
open Qc
theorem zP_mono : Mono zP := ⟨by simp [zP], fun j => by rw [zP_get]; omega⟩
theorem lead_one {ds : Pw} {ss : Nat → Sm} {n : Nat} {ts : List Term} {k : Nat} (hk : k < ts.length) : leadS ds ss n (toS (ts.take (k + 1))) = acc (leadS ds ss n (toS (ts.take k))) (scl (prS ds ss (tm ts k).mono oneS n) (tm ts k).fac) := by
  unfold leadS leadL
  rw [toS_take hk, List.flatMap_append, acc_app]
  simp
section
variable {ds ws : Pw} {ss : Nat → Sm} {s : Sm} {n : Nat} {M : Int}
structure Ld (ds ws : Pw) (ss : Nat → Sm) (n : Nat) (M : Int) (s : Sm) : Prop where
  dg : Dg ds
  ws0 : ∀ j, 0 ≤ ws.getD j 0
  im : ∀ j, j < n → Ws ds (ws.getD j 0) (ss j)
  sok : Sok M s
  wt : ∀ x ∈ s, wsum ws x.1 n ≤ 13
theorem Ld.pr (h : Ld ds ws ss n M s) {x : Pw × Int} (hx : x ∈ s) {u : Sm} (hu : Ws ds 0 u) {i : Nat} (hi : i ≤ n) : Ws ds (wsum ws x.1 i) (prS ds ss x.1 u i) := by
  have hp := h.sok.key x hx
  have hws : ∀ k d : Nat, wsum ws x.1 k ≤ wsum ws x.1 (k + d) := fun k d => by
    induction d with
    | zero => exact Int.le_refl _
    | succ d ih => have := Int.mul_nonneg (h.ws0 (k + d)) (hp.bd (k + d)).1; show _ ≤ wsum ws x.1 (k + d) + ws.getD (k + d) 0 * x.1.getD (k + d) 0; omega
  have h1 := hws i (n - i)
  rw [show i + (n - i) = n by omega] at h1
  have h2 := h.wt x hx
  have h3 := Ws.pr (ws := ws) (p := x.1) h.dg h.ws0 (fun j => (hp.bd j).1) hu (Int.le_refl 0) i (fun j hj => h.im j (by omega)) (by omega)
  rwa [Int.zero_add] at h3
theorem Ld.le (h : Ld ds ws ss n M s) {x : Pw × Int} (hx : x ∈ s) {i : Nat} (hi : i < n) : 0 ≤ wsum ws x.1 i ∧ wsum ws x.1 i + ws.getD i 0 * x.1.getD i 0 ≤ 13 := by
  have hp := h.sok.key x hx
  have hws : ∀ k d : Nat, wsum ws x.1 k ≤ wsum ws x.1 (k + d) := fun k d => by
    induction d with
    | zero => exact Int.le_refl _
    | succ d ih => have := Int.mul_nonneg (h.ws0 (k + d)) (hp.bd (k + d)).1; show _ ≤ wsum ws x.1 (k + d) + ws.getD (k + d) 0 * x.1.getD (k + d) 0; omega
  have h1 := hws (i + 1) (n - (i + 1))
  rw [show i + 1 + (n - (i + 1)) = n by omega] at h1
  have h2 := h.wt x hx
  have h3 := hws 0 i
  rw [Nat.zero_add] at h3
  simp only [wsum] at h1 h3
  exact ⟨h3, by omega⟩
theorem Ld.pw (h : Ld ds ws ss n M s) {x : Pw × Int} (hx : x ∈ s) {i : Nat} (hi : i < n) : Ws ds (ws.getD i 0 * x.1.getD i 0) (pwS ds (ss i) (x.1.getD i 0).toNat) := by
  have hp := (h.sok.key x hx).bd i
  have e1 : ((x.1.getD i 0).toNat : Int) = x.1.getD i 0 := by omega
  have h1 := h.le hx hi
  have h2 := (h.im i hi).pw h.dg (h.ws0 i) (x.1.getD i 0).toNat (by rw [e1, Int.mul_comm]; omega)
  rwa [e1, Int.mul_comm] at h2
theorem Ld.tail (h : Ld ds ws ss n M s) {t : Sm} (ht : ∀ x ∈ t, x ∈ s) (hs : Sok M t) : Ld ds ws ss n M t := ⟨h.dg, h.ws0, h.im, hs, fun x hx => h.wt x (ht x hx)⟩
theorem Ld.key (h : Ld ds ws ss n M s) : ∀ z ∈ leadL ds ss n s, Pok 13 z.1 := fun z hz => by
  obtain ⟨x, hx, h1⟩ := List.mem_flatMap.1 hz
  exact scl_pok (h.pr hx (Ws.one (c := 1) (by omega)) (Nat.le_refl n)).sok x.2 z h1
theorem Ld.lead (h : Ld ds ws ss n M s) : Sok 13 (leadS ds ss n s) := Sok.nil.acc h.key
theorem scl_len (s : Sm) (k : Int) : (scl s k).length = s.length := by simp [scl]
theorem Ld.llen (h : Ld ds ws ss n M s) : (leadL ds ss n s).length ≤ s.length * 1000000 := by
  have key : ∀ t : Sm, (∀ x ∈ t, x ∈ s) → (leadL ds ss n t).length ≤ t.length * 1000000 := by
    intro t
    induction t with
    | nil => intro _; simp [leadL]
    | cons x t ih =>
      intro ht
      have h1 := ih fun y hy => ht y (by simp [hy])
      have hx := ht x (by simp)
      have h2 := (h.pr hx (Ws.one (c := 1) (by omega)) (Nat.le_refl n)).len h.dg (by
        have hp := h.sok.key x hx
        have hws : ∀ k : Nat, 0 ≤ wsum ws x.1 k := fun k => by
          induction k with
          | zero => simp [wsum]
          | succ k ih => have := Int.mul_nonneg (h.ws0 k) (hp.bd k).1; simp only [wsum]; omega
        exact hws n)
      have h3 := h.wt x hx
      have h4 := (cnt_prod (s := (wsum ws x.1 n).toNat) (t := 0) (by omega)).2
      have e : leadL ds ss n (x :: t) = scl (prS ds ss x.1 oneS n) x.2 ++ leadL ds ss n t := by unfold leadL; rw [List.flatMap_cons]
      rw [e, List.length_append, scl_len, List.length_cons, Nat.succ_mul]
      unfold oneS at h2 ⊢
      omega
  exact key s fun x hx => hx
theorem Ld.len (h : Ld ds ws ss n M s) : (leadS ds ss n s).length ≤ s.length * 1000000 := by
  have h1 := acc_len (leadL ds ss n s) []
  have h2 := h.llen
  unfold leadS
  simp only [List.length_nil] at h1
  omega
theorem Ld.step (h : Ld ds ws ss n M s) {x : Pw × Int} (hx : x ∈ s) (hv : 1 ≤ x.2 ∧ x.2 ≤ 10006) {out : Sm} (ho : Sok 13 out) : acc out (scl (prS ds ss x.1 (addS [] zP x.2) n) 1) = acc out (scl (prS ds ss x.1 oneS n) x.2) := by
  have hp := h.sok.key x hx
  have h1 := pr_scl (ws := ws) (ss := ss) (p := x.1) (u := oneS) h.dg h.ws0 (fun j => (hp.bd j).1) (Ws.one (c := 1) (by omega)) (Int.le_refl 0) x.2 n h.im (by have := h.wt x hx; omega)
  rw [one_scl hv, h1]
  exact acc_scl1 ho (h.pr hx (Ws.one (c := 1) (by omega)) (Nat.le_refl n)).sok x.2
theorem addS_zP {c : Int} (hc : 1 ≤ c ∧ c ≤ 10006) : addS [] zP c = [(zP, c)] := by
  simp only [addS]
  rw [fld_id (by omega), if_neg (by omega)]
end
set_option maxHeartbeats 2000000 in
set_option maxRecDepth 10000 in
theorem l04Power_c {B : World} {H0 H : HP} {L : List SA} {w : World} {qds : Option Addr} {cds : Nat} {ds : List Int} {qts : Option Addr} {cts : Nat} {ts : List Term} {x : Int} {d : Int} (hds : Ints H qds ds) (hts : Terms H qts ts) (hd : Dg ds) (hs : Ws ds d (toS ts)) (h0 : 0 ≤ d) (hx : 0 ≤ x ∧ x ≤ 255) (hw : x * d ≤ 13) (hH : Hp B H0 H L w) :
    Calls Try.prog 180 [.slice qds ds.length cds, .agg [.slice qts ts.length cts].toArray, .int .u8 x].toArray w fun e w' => ∃ q c, e = .returned (.agg [.slice q (ofS (pwS ds (toS ts) x.toNat)).length c].toArray) ∧ Hp B H0 H (own 88 9 q (ofS (pwS ds (toS ts) x.toNat)).length c (tsC (ofS (pwS ds (toS ts) x.toNat))) :: L) w' := by
  refine CJ.enter Try.func180 rfl 19 rfl rfl [(0, .slice qds ds.length cds), (1, .agg [.slice qts ts.length cts].toArray), (2, .int .u8 x)] rfl hH ?_
  clear hH
  refine CJ.seq fun _ hK1 _ => ?_
  refine CJ.region ?_
  refine J.box rfl rfl rfl fun g4 => ?_
  refine J.alloc ze29 rfl fun g6 => ?_
  refine J.nil ?_
  refine EJ.thenN (hK1 ?_)
  refine CJ.seq fun _ hK2 _ => ?_
  refine CJ.region ?_
  refine J.p (PR.buildZ bz86) rfl ?_
  refine J.call fn149 rfl rfl fun w hH => (l01Single_c zP_mono (by omega) hH).mono ?_
  rintro _ w ⟨qo9, co9, rfl, hH⟩
  refine ⟨_, rfl, fun a hF => J.of hF hH ?_⟩
  refine J.alloc ze29 rfl fun g7 => ?_
  refine J.storeAll rfl rfl (by first | exact bytesC_one _ | exact intsC_one _ | exact Term.c_one _ | simp [Value.oneCell']) (by simpa [*] using sz29) (by simp [*]) At.z ?_
  refine J.nil ?_
  refine EJ.thenN (hK2 ?_)
  refine CJ.seq fun _ hK3 _ => ?_
  refine CJ.block ?_
  refine CJ.loopU (σ := Option Addr × Nat × Nat) (fun ⟨q, c, j⟩ => [(2, .int .u8 (x - (j : Int)))]) (fun ⟨q, c, j⟩ => H) (fun ⟨q, c, j⟩ => obj g7 (.cells [.slice q (ofS (pwS ds (toS ts) j)).length c].toArray 29 (0, 0)) :: own 88 9 q (ofS (pwS ds (toS ts) j)).length c (tsC (ofS (pwS ds (toS ts) j))) :: obj g6 (.cells [.slice none 0 0].toArray 29 (0, 0)) :: obj g4 (.cells [.slice qts ts.length cts].toArray 29 (0, 0)) :: L) (fun ⟨q, c, j⟩ => (j : Int) ≤ x) (fun ⟨q, c, j⟩ => x.toNat - j) (qo9, co9, 0) (by show (0 : Int) ≤ x; omega) ⟨(vi8 (by omega)), trivial⟩ rfl (by dsimp only; rw [addS_one]; rfl) ?_
  rintro ⟨q, c, j⟩ hj _ hAg0
  have hmj : (j : Int) * d ≤ x * d := Int.mul_le_mul_of_nonneg_right hj h0
  have hj1 := hs.pw hd h0 j (by omega)
  have hjn : 0 ≤ (j : Int) * d := Int.mul_nonneg (by omega) h0
  have wfO := hj1.sok.wf (by omega)
  refine CJ.seq fun _ hK4 _ => ?_
  refine CJ.seq fun _ hK5 _ => ?_
  refine CJ.region ?_
  refine J.p (PR.move rfl) rfl ?_
  refine J.p (PR.gtr rfl rfl) rfl ?_
  refine J.nil ?_
  refine EJ.thenN (hK5 ?_)
  refine CJ.condD rfl (fun h11 => ?_) (fun h11 => ?_)
  ·
    have hjd : ((j : Int) + 1) * d ≤ x * d := Int.mul_le_mul_of_nonneg_right (by omega) h0
    rw [Int.add_mul, Int.one_mul] at hjd
    have hjl := hj1.lens hd hs hjn h0 (by omega)
    refine CJ.skip ?_
    refine EJ.thenN (hK4 ?_)
    refine CJ.seq fun _ hK6 _ => ?_
    refine CJ.block ?_
    refine CJ.region ?_
    refine J.p (PR.move rfl) rfl ?_
    refine J.p (PR.loadAll rfl At.z (by simpa [*] using ag29)) rfl ?_
    refine J.p (PR.loadAll rfl (.s (.s (.s .z))) (by simpa [*] using ag29)) rfl ?_
    refine J.call fn148 rfl rfl fun w hH => hH.lend (.s .z) fun Hl1 hle1 hA1 hB1 hH => (l01Times_c (hds.le hle1) (own_terms wfO hA1) (hts.le hle1) hd.hn hd.hd (by rw [toS_ofS]; exact hj1.kex) hs.kex (by rw [toS_ofS]; exact hj1.sok.g) hs.sok.g (by omega) (by rw [ofS_len, ← toS_len ts]; exact hjl.1) (by rw [ofS_len]; have := hjl.2; omega) hH).mono ?_
    rintro _ w ⟨qo17, co17, rfl, hH⟩
    replace hH := hB1 _ _ hH
    refine ⟨_, rfl, fun a hF => J.of hF hH ?_⟩
    refine J.storeAll rfl rfl (by first | exact bytesC_one _ | exact intsC_one _ | exact Term.c_one _ | simp [Value.oneCell']) (by simpa [*] using sz29) (by simp [*]) (.s (.s .z)) ?_
    refine J.nil ?_
    refine EJ.inN ?_
    refine EJ.thenN (hK6 ?_)
    refine CJ.region ?_
    refine J.p (PR.move rfl) rfl ?_
    refine J.p (PR.sub rfl rfl (u8_id (by omega))) rfl ?_
    refine J.p (PR.assign rfl) rfl ?_
    refine J.nil ?_
    refine EJ.thenN ?_
    refine EJ.drop .z ?_
    refine EJ.front (.s (.s (.s .z))) ?_
    refine EJ.front (.s (.s (.s .z))) ?_
    refine EJ.front (.s (.s .z)) ?_
    refine EJ.front (.s (.s (.s .z))) ?_
    exact hAg0 (qo17, co17, j + 1) (by show ((j + 1 : Nat) : Int) ≤ x; omega) (by show x.toNat - (j + 1) < x.toNat - j; omega) 10 rfl rfl ⟨(vi8 (by omega)), trivial⟩ rfl (by dsimp only; simp only [toS_ofS]; rfl)
  ·
    refine CJ.exit ?_
    refine EJ.thenE ?_
    refine EJ.thenE ?_
    refine EJ.inE ?_
    refine EJ.thenN (hK3 ?_)
    refine CJ.seq fun _ hK7 _ => ?_
    refine CJ.region ?_
    refine J.p (PR.loadAll rfl At.z (by simpa [*] using ag29)) rfl ?_
    refine J.storeAll rfl rfl (by first | exact bytesC_one _ | exact intsC_one _ | exact Term.c_one _ | simp [Value.oneCell']) (by simpa [*] using sz29) (by simp [*]) (.s (.s .z)) ?_
    refine J.nil ?_
    refine EJ.thenN (hK7 ?_)
    refine CJ.ret ?_
    refine EJ.ret1 rfl (Res.agg rfl (.s (.s .z)) (by simpa [*] using ag29)) fun w hH => ?_
    replace hH := hH.sublist (.cons _ (.cons_cons _ (.cons _ (.cons _ (List.Sublist.refl _)))))
    have ej : j = x.toNat := by omega
    subst ej
    exact ⟨_, _, rfl, hH⟩
end Go.Proofs.Ytpojpokldncglaa.G
namespace Go.Proofs.Ytpojpokldncglaa.G
open Go Go.RowKit
namespace Qd
theorem u2 : Try.prog.underlying 2 = some (TypeDesc.int .i64) := by kernel_rfl
theorem u27 : Try.prog.underlying 27 = some (TypeDesc.slice 88) := by kernel_rfl
theorem u29 : Try.prog.underlying 29 = some (TypeDesc.struct #[{ name := "Terms", type := 27, offset := 0, embedded := false, tag := "", pkgPath := "", byteOffset := 0 }]) := by kernel_rfl
theorem u39 : Try.prog.underlying 39 = some (TypeDesc.slice 29) := by kernel_rfl
theorem u5 : Try.prog.underlying 5 = some (TypeDesc.int .u8) := by kernel_rfl
theorem u86 : Try.prog.underlying 86 = some (TypeDesc.array 8 5) := by kernel_rfl
theorem u88 : Try.prog.underlying 88 = some (TypeDesc.struct #[{ name := "Monomial", type := 86, offset := 0, embedded := false, tag := "", pkgPath := "", byteOffset := 0 }, { name := "Factor", type := 2, offset := 8, embedded := false, tag := "", pkgPath := "", byteOffset := 8 }]) := by kernel_rfl
theorem sz2 : Size Try.prog 2 1 := by unfold Size; kernel_rfl
theorem sz27 : Size Try.prog 27 1 := by unfold Size; kernel_rfl
theorem sz29 : Size Try.prog 29 1 := by unfold Size; kernel_rfl
theorem sz5 : Size Try.prog 5 1 := by unfold Size; kernel_rfl
theorem sz86 : Size Try.prog 86 8 := by unfold Size; kernel_rfl
theorem sz88 : Size Try.prog 88 9 := by unfold Size; kernel_rfl
theorem bz29 : ∀ w, (Instr.build 29 #[]).run Try.prog w = .ok (.agg [.slice none 0 0].toArray) w := fun _ => by kernel_rfl
theorem ze29 : Zero Try.prog 29 [.slice none 0 0] := by unfold Zero; kernel_rfl
theorem bz86 : ∀ w, (Instr.build 86 #[]).run Try.prog w = .ok (.agg [.int .u8 0, .int .u8 0, .int .u8 0, .int .u8 0, .int .u8 0, .int .u8 0, .int .u8 0, .int .u8 0].toArray) w := fun _ => by kernel_rfl
theorem pl2 : Plain Try.prog 2 := ⟨_, u2, rfl⟩
theorem pl27 : Plain Try.prog 27 := ⟨_, u27, rfl⟩
theorem pl5 : Plain Try.prog 5 := ⟨_, u5, rfl⟩
theorem ag29 : Agg Try.prog 29 1 := ⟨_, u29, rfl, by kernel_rfl⟩
theorem fn148 : Fn Try.prog 148 := ⟨_, Try.func148, by kernel_rfl, rfl⟩
theorem fn149 : Fn Try.prog 149 := ⟨_, Try.func149, by kernel_rfl, rfl⟩
theorem fn150 : Fn Try.prog 150 := ⟨_, Try.func150, by kernel_rfl, rfl⟩
theorem fn180 : Fn Try.prog 180 := ⟨_, Try.func180, by kernel_rfl, rfl⟩
theorem foll0 : Try.prog.follows .mixedOrders = true := by kernel_rfl
end Qd
open Qd
def ssF (ms : List (List Term)) (i : Nat) : Sm := toS (fm ms i)
theorem prS_yes {ds : Pw} {ss : Nat → Sm} {p : Pw} {u : Sm} {i : Nat} (h : 0 < p.getD i 0) : prS ds ss p u (i + 1) = timesS ds (prS ds ss p u i) (pwS ds (ss i) (p.getD i 0).toNat) := by
  rw [prS, if_pos h]
theorem prS_no {ds : Pw} {ss : Nat → Sm} {p : Pw} {u : Sm} {i : Nat} (h : ¬ 0 < p.getD i 0) : prS ds ss p u (i + 1) = prS ds ss p u i := by
  rw [prS, if_neg h]
theorem wsum_nn0 {ws p : Pw} (hw : ∀ j, 0 ≤ ws.getD j 0) (hp : ∀ j, 0 ≤ p.getD j 0) : ∀ k : Nat, 0 ≤ wsum ws p k
  | 0 => by simp [wsum]
  | k + 1 => by have := wsum_nn0 hw hp k; have := Int.mul_nonneg (hw k) (hp k); simp only [wsum]; omega
theorem wsum_mono {ws p : Pw} (hw : ∀ j, 0 ≤ ws.getD j 0) (hp : ∀ j, 0 ≤ p.getD j 0) (k : Nat) : ∀ d : Nat, wsum ws p k ≤ wsum ws p (k + d)
  | 0 => Int.le_refl _
  | d + 1 => by have := wsum_mono hw hp k d; have := Int.mul_nonneg (hw (k + d)) (hp (k + d)); show _ ≤ wsum ws p (k + d) + ws.getD (k + d) 0 * p.getD (k + d) 0; omega
theorem Ld.wle {ds ws : Pw} {ss : Nat → Sm} {s : Sm} {n : Nat} {M : Int} (h : Ld ds ws ss n M s) {x : Pw × Int} (hx : x ∈ s) {i : Nat} (hi : i ≤ n) : wsum ws x.1 i ≤ 13 := by
  have h1 := wsum_mono h.ws0 (fun j => ((h.sok.key x hx).bd j).1) i (n - i)
  rw [show i + (n - i) = n by omega] at h1
  have := h.wt x hx
  omega
set_option maxHeartbeats 8000000 in
set_option maxRecDepth 10000 in
theorem l04Apply_c {B : World} {H0 H : HP} {L : List SA} {w : World} {qds : Option Addr} {cds : Nat} {ds : List Int} {qms : Option Addr} {cms : Nat} {ms : List (List Term)} {qts : Option Addr} {cts : Nat} {ts : List Term} {ws : Pw} {M : Int} (hds : Ints H qds ds) (hms : Forms H qms ms) (hts : Terms H qts ts) (hL : Ld ds ws (ssF ms) ms.length M (toS ts)) (hM : M ≤ 255) (hl : ts.length ≤ 400) (hm : ms.length ≤ 8) (hH : Hp B H0 H L w) :
    Calls Try.prog 162 [.slice qds ds.length cds, .slice qms ms.length cms, .agg [.slice qts ts.length cts].toArray].toArray w fun e w' => ∃ q c, e = .returned (.agg [.slice q (ofS (leadS ds (ssF ms) ms.length (toS ts))).length c].toArray) ∧ Hp B H0 H (own 88 9 q (ofS (leadS ds (ssF ms) ms.length (toS ts))).length c (tsC (ofS (leadS ds (ssF ms) ms.length (toS ts)))) :: L) w' := by
  refine CJ.enter Try.func162 rfl 63 rfl rfl [(0, .slice qds ds.length cds), (1, .slice qms ms.length cms), (2, .agg [.slice qts ts.length cts].toArray)] rfl hH ?_
  clear hH
  refine CJ.seq fun _ hK1 _ => ?_
  refine CJ.region ?_
  refine J.box rfl rfl rfl fun g5 => ?_
  refine J.alloc ze29 rfl fun g6 => ?_
  refine J.nil ?_
  refine EJ.thenN (hK1 ?_)
  refine CJ.seq fun _ hK2 _ => ?_
  refine CJ.region ?_
  refine J.own0 88 9 ?_
  refine J.p (PR.buildZ bz29) rfl ?_
  refine J.alloc ze29 rfl fun g7 => ?_
  refine J.storeAll rfl rfl (by first | exact bytesC_one _ | exact intsC_one _ | exact Term.c_one _ | simp [Value.oneCell']) (by simpa [*] using sz29) (by simp [*]) At.z ?_
  refine J.nil ?_
  refine EJ.thenN (hK2 ?_)
  refine CJ.seq fun _ hK3 _ => ?_
  refine CJ.seq fun _ hK4 _ => ?_
  refine CJ.region ?_
  refine J.p (PR.assign rfl) rfl ?_
  refine J.nil ?_
  refine EJ.thenN (hK4 ?_)
  refine CJ.block ?_
  refine CJ.loopU (σ := Option Addr × Nat × Nat) (fun ⟨q, c, k⟩ => [(8, .int .i64 (k : Int))]) (fun ⟨q, c, k⟩ => H) (fun ⟨q, c, k⟩ => obj g7 (.cells [.slice q (ofS (leadS ds (ssF ms) ms.length (toS (ts.take k)))).length c].toArray 29 (0, 0)) :: own 88 9 q (ofS (leadS ds (ssF ms) ms.length (toS (ts.take k)))).length c (tsC (ofS (leadS ds (ssF ms) ms.length (toS (ts.take k))))) :: obj g6 (.cells [.slice none 0 0].toArray 29 (0, 0)) :: obj g5 (.cells [.slice qts ts.length cts].toArray 29 (0, 0)) :: L) (fun ⟨q, c, k⟩ => k ≤ ts.length) (fun ⟨q, c, k⟩ => ts.length - k) (none, 0, 0) (by show 0 ≤ ts.length; omega) ⟨rfl, trivial⟩ rfl rfl ?_
  rintro ⟨q, c, k⟩ hk _ hAg0
  have hLk := hL.tail (t := toS (ts.take k)) (fun x hx => by rw [toS_tk] at hx; exact List.mem_of_mem_take hx) (hL.sok.tk k)
  have hls := hLk.lead
  have hll := hLk.len
  rw [toS_len, List.length_take_of_le (by omega)] at hll
  have wfO := hls.wf (by omega)
  refine CJ.seq fun _ hK5 _ => ?_
  refine CJ.seq fun _ hK6 _ => ?_
  refine CJ.region ?_
  refine J.p (PR.move rfl) rfl ?_
  refine J.p (PR.fldA u29 rfl sz27 rfl) rfl ?_
  refine J.p (PR.load rfl (.s (.s (.s .z))) rfl pl27) rfl ?_
  refine J.p (PR.lenSlice u27 rfl rfl) rfl ?_
  refine J.p (PR.lss rfl rfl) rfl ?_
  refine J.nil ?_
  refine EJ.thenN (hK6 ?_)
  refine CJ.condD rfl (fun h16 => ?_) (fun h16 => ?_)
  ·
    have hkl : k < ts.length := by omega
    have hxi := toS_at (ts := ts) hkl
    have hxv := hL.sok.val _ hxi
    have hxk := hL.sok.key _ hxi
    simp only at hxv hxk
    have hx8 := hxk.len
    have hu : Ws ds 0 (addS [] zP (tm ts k).fac) := by rw [addS_zP (by omega)]; exact Ws.one (by omega)
    refine CJ.skip ?_
    refine EJ.thenN (hK5 ?_)
    refine CJ.seq fun _ hK7 _ => ?_
    refine CJ.block ?_
    refine CJ.seq fun _ hK8 _ => ?_
    refine CJ.region ?_
    refine J.p (PR.buildZ bz86) rfl ?_
    refine J.p (PR.fldA u29 rfl sz27 rfl) rfl ?_
    refine J.p (PR.load rfl (.s (.s (.s .z))) rfl pl27) rfl ?_
    refine J.p (PR.move rfl) rfl ?_
    refine J.p (PR.idx u27 sz88 rfl rfl rfl (by omega) hts.sm) rfl ?_
    refine J.p (PR.fldP u88 rfl sz2 rfl (hts.sm (i := k) (by omega))) rfl ?_
    refine J.p (PR.loadH rfl (hts.fac (by omega)) pl2) rfl ?_
    refine J.call fn149 rfl rfl fun w hH => (l01Single_c zP_mono (by omega) hH).mono ?_
    rintro _ w ⟨qo26, co26, rfl, hH⟩
    refine ⟨_, rfl, fun a hF => J.of hF hH ?_⟩
    refine J.alloc ze29 rfl fun g9 => ?_
    refine J.storeAll rfl rfl (by first | exact bytesC_one _ | exact intsC_one _ | exact Term.c_one _ | simp [Value.oneCell']) (by simpa [*] using sz29) (by simp [*]) At.z ?_
    refine J.nil ?_
    refine EJ.thenN (hK8 ?_)
    refine CJ.seq fun _ hK9 _ => ?_
    refine CJ.seq fun _ hK10 _ => ?_
    refine CJ.region ?_
    refine J.p (PR.assign rfl) rfl ?_
    refine J.nil ?_
    refine EJ.thenN (hK10 ?_)
    refine CJ.block ?_
    refine CJ.loopU (σ := Option Addr × Nat × Nat) (fun ⟨q1, c1, i⟩ => [(10, .int .i64 (i : Int))]) (fun ⟨q1, c1, i⟩ => H) (fun ⟨q1, c1, i⟩ => obj g9 (.cells [.slice q1 (ofS (prS ds (ssF ms) (tm ts k).mono (addS [] zP (tm ts k).fac) i)).length c1].toArray 29 (0, 0)) :: own 88 9 q1 (ofS (prS ds (ssF ms) (tm ts k).mono (addS [] zP (tm ts k).fac) i)).length c1 (tsC (ofS (prS ds (ssF ms) (tm ts k).mono (addS [] zP (tm ts k).fac) i))) :: obj g7 (.cells [.slice q (ofS (leadS ds (ssF ms) ms.length (toS (ts.take k)))).length c].toArray 29 (0, 0)) :: own 88 9 q (ofS (leadS ds (ssF ms) ms.length (toS (ts.take k)))).length c (tsC (ofS (leadS ds (ssF ms) ms.length (toS (ts.take k))))) :: obj g6 (.cells [.slice none 0 0].toArray 29 (0, 0)) :: obj g5 (.cells [.slice qts ts.length cts].toArray 29 (0, 0)) :: L) (fun ⟨q1, c1, i⟩ => i ≤ ms.length) (fun ⟨q1, c1, i⟩ => ms.length - i) (qo26, co26, 0) (by show 0 ≤ ms.length; omega) ⟨rfl, trivial⟩ rfl rfl ?_
    rintro ⟨q1, c1, i⟩ hi _ hAg1
    have hpr := hL.pr hxi hu hi
    simp only at hpr
    have wfP := hpr.sok.wf (by omega)
    have hpn := Nat.le_trans (hpr.len hL.dg (wsum_nn0 hL.ws0 (fun j => (hxk.bd j).1) i)) (cnt_prod (s := (wsum ws (tm ts k).mono i).toNat) (t := 0) (by have := hL.wle hxi hi; simp only at this; omega)).2
    refine CJ.seq fun _ hK11 _ => ?_
    refine CJ.seq fun _ hK12 _ => ?_
    refine CJ.region ?_
    refine J.p (PR.move rfl) rfl ?_
    refine J.p (PR.move rfl) rfl ?_
    refine J.p (PR.lenSlice u39 rfl rfl) rfl ?_
    refine J.p (PR.lss rfl rfl) rfl ?_
    refine J.nil ?_
    refine EJ.thenN (hK12 ?_)
    refine CJ.condD rfl (fun h30 => ?_) (fun h30 => ?_)
    ·
      have hil : i < ms.length := by omega
      refine CJ.skip ?_
      refine EJ.thenN (hK11 ?_)
      refine CJ.seq fun _ hK13 _ => ?_
      refine CJ.block ?_
      refine CJ.seq fun _ hK14 _ => ?_
      refine CJ.region ?_
      refine J.p (PR.fldA u29 rfl sz27 rfl) rfl ?_
      refine J.p (PR.load rfl (.s (.s (.s (.s (.s .z))))) rfl pl27) rfl ?_
      refine J.p (PR.move rfl) rfl ?_
      refine J.p (PR.move rfl) rfl ?_
      refine J.p (PR.idx u27 sz88 rfl rfl rfl (by omega) hts.sm) rfl ?_
      refine J.p (PR.fldP u88 rfl sz86 rfl (hts.sm (i := k) (by omega))) rfl ?_
      refine J.p (PR.idxP1 u86 sz5 rfl (hts.sm (i := k) (by omega)) rfl rfl (by omega)) rfl ?_
      refine J.p (PR.loadH rfl (hts.byte (by omega) (by omega)) pl5) rfl ?_
      refine J.p (PR.gtr rfl rfl) rfl ?_
      refine J.nil ?_
      refine EJ.thenN (hK14 ?_)
      refine CJ.condD rfl (fun h41 => ?_) (fun h41 => ?_)
      ·
        have hpos : 0 < (tm ts k).mono.getD i 0 := by omega
        have hpk := hxk.bd i
        have hle := hL.le hxi hil
        have hpw := hL.pw hxi hil
        simp only at hle hpw
        have hpl := hpr.lens hL.dg hpw hle.1 (Int.mul_nonneg (hL.ws0 i) hpk.1) hle.2
        refine CJ.openR (Rs := [_, _, _, _, _, _]) 18 [[], [], [], [], [], [3, 4], [3, 4, 5], [], [7], [], [], [7, 8, 9], [7, 8, 9, 11], [7, 8, 9, 10, 11, 12], [7, 8, 9, 10, 11, 12, 13], [2, 3, 4, 5, 6, 7, 8, 9, 10, 11, 12, 13, 14], [0, 1, 2, 3, 4, 5, 6, 7, 8, 9, 10, 11, 12, 13, 14, 15], [0, 1, 2, 3, 4, 5, 6, 7, 8, 9, 10, 11, 12, 13, 14, 15, 16]] [[], [18], [], [], [], [], [], [], [23], [], [], [], [], [], [], [], [15, 19], []] [[], [], [], [], [], [], [], [], [], [], [], [], [], [], [], [], [], [18]] rfl rfl (by kernel_rfl) ?_
        apply GJ.st0 1 rfl
        iterate 3 focus (intros; (conv => lhs; simp only [slotsZ, zlAt, vs0, resL, at2, eq_self, Nat.reduceEqDiff, reduceIte, Nat.reduceSub, Nat.reduceAdd, List.cons_append, List.nil_append]); all_goals rfl)
        ·
          intro gh X K zq zc zq2 zc2 zb zv hK
          refine J.p (PR.move rfl) rfl ?_
          refine J.nilK ?_
          exact hK zq zc zq2 zc2 zb zv
        ·
          intro gh gh' h
          rfl
        apply GJ.st0 2 rfl
        iterate 3 focus (intros; (conv => lhs; simp only [slotsZ, zlAt, vs0, resL, at2, eq_self, Nat.reduceEqDiff, reduceIte, Nat.reduceSub, Nat.reduceAdd, List.cons_append, List.nil_append]); all_goals rfl)
        ·
          intro gh X K zq zc zq2 zc2 zb zv hK
          refine J.p (PR.loadAll rfl At.z (by simpa [*] using ag29)) rfl ?_
          refine J.nilK ?_
          exact hK zq zc zq2 zc2 zb zv
        ·
          intro gh gh' h
          rfl
        apply GJ.st0 3 rfl
        iterate 3 focus (intros; (conv => lhs; simp only [slotsZ, zlAt, vs0, resL, at2, eq_self, Nat.reduceEqDiff, reduceIte, Nat.reduceSub, Nat.reduceAdd, List.cons_append, List.nil_append]); all_goals rfl)
        ·
          intro gh X K zq zc zq2 zc2 zb zv hK
          refine J.p (PR.move rfl) rfl ?_
          refine J.nilK ?_
          exact hK zq zc zq2 zc2 zb zv
        ·
          intro gh gh' h
          rfl
        apply GJ.st0 4 rfl
        iterate 3 focus (intros; (conv => lhs; simp only [slotsZ, zlAt, vs0, resL, at2, eq_self, Nat.reduceEqDiff, reduceIte, Nat.reduceSub, Nat.reduceAdd, List.cons_append, List.nil_append]); all_goals rfl)
        ·
          intro gh X K zq zc zq2 zc2 zb zv hK
          refine J.p (PR.move rfl) rfl ?_
          refine J.nilK ?_
          exact hK zq zc zq2 zc2 zb zv
        ·
          intro gh gh' h
          rfl
        apply GJ.st0 5 rfl
        iterate 3 focus (intros; (conv => lhs; simp only [slotsZ, zlAt, vs0, resL, at2, eq_self, Nat.reduceEqDiff, reduceIte, Nat.reduceSub, Nat.reduceAdd, List.cons_append, List.nil_append]); all_goals rfl)
        ·
          intro gh X K zq zc zq2 zc2 zb zv hK
          refine J.p (PR.move rfl) rfl ?_
          refine J.nilK ?_
          exact hK zq zc zq2 zc2 zb zv
        ·
          intro gh gh' h
          rfl
        apply GJ.st0 6 rfl
        iterate 3 focus (intros; (conv => lhs; simp only [slotsZ, zlAt, vs0, resL, at2, eq_self, Nat.reduceEqDiff, reduceIte, Nat.reduceSub, Nat.reduceAdd, List.cons_append, List.nil_append]); all_goals rfl)
        ·
          intro gh X K zq zc zq2 zc2 zb zv hK
          refine J.p (PR.idx1 u39 sz29 rfl rfl rfl (by omega) hms.sm) rfl ?_
          refine J.nilK ?_
          exact hK zq zc zq2 zc2 zb zv
        ·
          intro gh gh' h
          rfl
        obtain ⟨qe48, ce48, he48, le48, Fe48⟩ := hms i (by omega)
        apply GJ.st0 7 rfl
        iterate 3 focus (intros; (conv => lhs; simp only [slotsZ, zlAt, vs0, resL, at2, eq_self, Nat.reduceEqDiff, reduceIte, Nat.reduceSub, Nat.reduceAdd, List.cons_append, List.nil_append]); all_goals rfl)
        ·
          intro gh X K zq zc zq2 zc2 zb zv hK
          refine J.p (PR.loadHagg (cs := [_]) rfl (one_cell he48) (hms.sm (i := i) (by omega)) ag29) rfl ?_
          refine J.nilK ?_
          exact hK zq zc zq2 zc2 zb zv
        ·
          intro gh gh' h
          rfl
        apply GJ.st0 8 rfl
        iterate 3 focus (intros; (conv => lhs; simp only [slotsZ, zlAt, vs0, resL, at2, eq_self, Nat.reduceEqDiff, reduceIte, Nat.reduceSub, Nat.reduceAdd, List.cons_append, List.nil_append]); all_goals rfl)
        ·
          intro gh X K zq zc zq2 zc2 zb zv hK
          refine J.p (PR.fldA u29 rfl sz27 rfl) rfl ?_
          refine J.nilK ?_
          exact hK zq zc zq2 zc2 zb zv
        ·
          intro gh gh' h
          rfl
        apply GJ.st0 9 rfl
        iterate 3 focus (intros; (conv => lhs; simp only [slotsZ, zlAt, vs0, resL, at2, eq_self, Nat.reduceEqDiff, reduceIte, Nat.reduceSub, Nat.reduceAdd, List.cons_append, List.nil_append]); all_goals rfl)
        ·
          intro gh X K zq zc zq2 zc2 zb zv hK
          refine J.p (PR.load rfl At.z rfl pl27) rfl ?_
          refine J.nilK ?_
          exact hK zq zc zq2 zc2 zb zv
        ·
          intro gh gh' h
          rfl
        apply GJ.st0 10 rfl
        iterate 3 focus (intros; (conv => lhs; simp only [slotsZ, zlAt, vs0, resL, at2, eq_self, Nat.reduceEqDiff, reduceIte, Nat.reduceSub, Nat.reduceAdd, List.cons_append, List.nil_append]); all_goals rfl)
        ·
          intro gh X K zq zc zq2 zc2 zb zv hK
          refine J.p (PR.move rfl) rfl ?_
          refine J.nilK ?_
          exact hK zq zc zq2 zc2 zb zv
        ·
          intro gh gh' h
          rfl
        apply GJ.st0 11 rfl
        iterate 3 focus (intros; (conv => lhs; simp only [slotsZ, zlAt, vs0, resL, at2, eq_self, Nat.reduceEqDiff, reduceIte, Nat.reduceSub, Nat.reduceAdd, List.cons_append, List.nil_append]); all_goals rfl)
        ·
          intro gh X K zq zc zq2 zc2 zb zv hK
          refine J.p (PR.move rfl) rfl ?_
          refine J.nilK ?_
          exact hK zq zc zq2 zc2 zb zv
        ·
          intro gh gh' h
          rfl
        apply GJ.st0 12 rfl
        iterate 3 focus (intros; (conv => lhs; simp only [slotsZ, zlAt, vs0, resL, at2, eq_self, Nat.reduceEqDiff, reduceIte, Nat.reduceSub, Nat.reduceAdd, List.cons_append, List.nil_append]); all_goals rfl)
        ·
          intro gh X K zq zc zq2 zc2 zb zv hK
          refine J.p (PR.idx u27 sz88 rfl rfl rfl (by omega) hts.sm) rfl ?_
          refine J.nilK ?_
          exact hK zq zc zq2 zc2 zb zv
        ·
          intro gh gh' h
          rfl
        apply GJ.st0 13 rfl
        iterate 3 focus (intros; (conv => lhs; simp only [slotsZ, zlAt, vs0, resL, at2, eq_self, Nat.reduceEqDiff, reduceIte, Nat.reduceSub, Nat.reduceAdd, List.cons_append, List.nil_append]); all_goals rfl)
        ·
          intro gh X K zq zc zq2 zc2 zb zv hK
          refine J.p (PR.fldP u88 rfl sz86 rfl (hts.sm (i := k) (by omega))) rfl ?_
          refine J.nilK ?_
          exact hK zq zc zq2 zc2 zb zv
        ·
          intro gh gh' h
          rfl
        apply GJ.st0 14 rfl
        iterate 3 focus (intros; (conv => lhs; simp only [slotsZ, zlAt, vs0, resL, at2, eq_self, Nat.reduceEqDiff, reduceIte, Nat.reduceSub, Nat.reduceAdd, List.cons_append, List.nil_append]); all_goals rfl)
        ·
          intro gh X K zq zc zq2 zc2 zb zv hK
          refine J.p (PR.idxP1 u86 sz5 rfl (hts.sm (i := k) (by omega)) rfl rfl (by omega)) rfl ?_
          refine J.nilK ?_
          exact hK zq zc zq2 zc2 zb zv
        ·
          intro gh gh' h
          rfl
        apply GJ.st0 15 rfl
        iterate 3 focus (intros; (conv => lhs; simp only [slotsZ, zlAt, vs0, resL, at2, eq_self, Nat.reduceEqDiff, reduceIte, Nat.reduceSub, Nat.reduceAdd, List.cons_append, List.nil_append]); all_goals rfl)
        ·
          intro gh X K zq zc zq2 zc2 zb zv hK
          refine J.p (PR.loadH rfl (hts.byte (by omega) (by omega)) pl5) rfl ?_
          refine J.nilK ?_
          exact hK zq zc zq2 zc2 zb zv
        ·
          intro gh gh' h
          rfl
        apply GJ.st1 16 rfl
        iterate 3 focus (intros; (conv => lhs; simp only [slotsZ, zlAt, vs0, resL, at2, eq_self, Nat.reduceEqDiff, reduceIte, Nat.reduceSub, Nat.reduceAdd, List.cons_append, List.nil_append]); all_goals rfl)
        ·
          intro gh X K zq zc zq2 zc2 zb zv hK
          refine J.call fn180 rfl rfl fun w hH => (l04Power_c hds Fe48 hL.dg (hL.im i hil) (hL.ws0 i) (by omega) (by rw [Int.mul_comm]; omega) hH).mono ?_
          rintro _ w ⟨qo57, co57, rfl, hH⟩
          refine ⟨_, rfl, fun a hF => J.of hF hH ?_⟩
          refine J.nilK ?_
          exact hK qo57 co57 zq2 zc2 zb zv
        ·
          intro gh gh' h
          refine ⟨?_, ?_⟩ <;> rfl
        apply GJ.st1 17 rfl
        iterate 3 focus (intros; (conv => lhs; simp only [slotsZ, zlAt, vs0, resL, at2, eq_self, Nat.reduceEqDiff, reduceIte, Nat.reduceSub, Nat.reduceAdd, List.cons_append, List.nil_append]); all_goals rfl)
        ·
          intro gh X K zq zc zq2 zc2 zb zv hK
          refine J.call fn148 rfl rfl fun w hH => hH.lend (.s .z) fun Hl1 hle1 hA1 hB1 hH => hH.lend .z fun Hl2 hle2 hA2 hB2 hH => (l01Times_c ((hds.le hle1).le hle2) ((own_terms wfP hA1).le hle2) (own_terms (hpw.sok.wf (by omega)) hA2) hL.dg.hn hL.dg.hd (by rw [toS_ofS]; exact hpr.kex) (by rw [toS_ofS]; exact hpw.kex) (by rw [toS_ofS]; exact hpr.sok.g) (by rw [toS_ofS]; exact hpw.sok.g) (by omega) (by rw [ofS_len, ofS_len]; exact hpl.1) (by rw [ofS_len]; have := hpl.2; omega) hH).mono ?_
          rintro _ w ⟨qo58, co58, rfl, hH⟩
          replace hH := hB2 _ _ hH
          replace hH := hB1 _ _ hH
          refine ⟨_, rfl, fun a hF => J.of hF hH ?_⟩
          refine EJ.front .z ?_
          refine EJ.front (.s .z) ?_
          refine EJ.front (.s (.s .z)) ?_
          refine J.nilK ?_
          exact hK qo58 co58 zq2 zc2 zb zv
        ·
          intro gh gh' h
          refine ⟨?_, ?_⟩ <;> (first | simp only [h 15 rfl] | rfl)
        apply GJ.sn1 18 rfl
        iterate 3 focus (intros; (conv => lhs; simp only [slotsZ, zlAt, vs0, resL, at2, eq_self, Nat.reduceEqDiff, reduceIte, Nat.reduceSub, Nat.reduceAdd, List.cons_append, List.nil_append]); all_goals rfl)
        ·
          intro gh X K hK
          refine J.storeAll rfl rfl (by first | exact bytesC_one _ | exact intsC_one _ | exact Term.c_one _ | simp [Value.oneCell']) (by simpa [*] using sz29) (by simp [*]) At.z ?_
          refine J.nilK ?_
          exact hK
        ·
          intro gh gh' h
          first | simp only [h 15 rfl, h 16 rfl] | rfl
        apply GJ.close [0, 1, 2, 3, 4, 5, 6, 7, 8, 9, 10, 11, 12, 13, 14, 15, 16, 17] [0, 1, 2, 3, 4, 5, 6, 7, 8, 9, 10, 11, 12, 13, 14, 15, 16, 17, 19, 20, 21, 22, 23] foll0 rfl rfl rfl (by rfl)
        iterate 2 focus (intros; (conv => lhs; simp only [slotsZ, zlAt, vs0, resL, at2, eq_self, Nat.reduceEqDiff, reduceIte, Nat.reduceSub, Nat.reduceAdd, List.cons_append, List.nil_append]); all_goals rfl)
        intro gh
        generalize (gh 15).c = co57
        generalize (gh 15).q = qo57
        generalize (gh 16).c = co58
        generalize (gh 16).q = qo58
        clear gh
        refine EJ.inN ?_
        refine EJ.thenN (hK13 ?_)
        refine CJ.region ?_
        refine J.p (PR.move rfl) rfl ?_
        refine J.p (PR.add rfl rfl (by first | exact nw _ (by omega) | rfl)) rfl ?_
        refine J.p (PR.assign rfl) rfl ?_
        refine J.nil ?_
        refine EJ.thenN ?_
        refine EJ.drop (.s (.s (.s .z))) ?_
        refine EJ.drop .z ?_
        refine EJ.front (.s (.s (.s (.s (.s .z))))) ?_
        refine EJ.front (.s (.s (.s (.s (.s .z))))) ?_
        refine EJ.front (.s (.s (.s (.s (.s .z))))) ?_
        refine EJ.front (.s (.s (.s (.s (.s .z))))) ?_
        refine EJ.front (.s (.s (.s (.s .z)))) ?_
        refine EJ.front (.s (.s (.s (.s (.s .z))))) ?_
        exact hAg1 (qo58, co58, i + 1) (by show i + 1 ≤ ms.length; omega) (by show ms.length - (i + 1) < ms.length - i; omega) 34 rfl rfl ⟨rfl, trivial⟩ rfl (by dsimp only; simp only [toS_ofS]; rw [prS_yes hpos])
      ·
        refine CJ.skip ?_
        refine EJ.inN ?_
        refine EJ.thenN (hK13 ?_)
        refine CJ.region ?_
        refine J.p (PR.move rfl) rfl ?_
        refine J.p (PR.add rfl rfl (by first | exact nw _ (by omega) | rfl)) rfl ?_
        refine J.p (PR.assign rfl) rfl ?_
        refine J.nil ?_
        refine EJ.thenN ?_
        exact hAg1 (q1, c1, i + 1) (by show i + 1 ≤ ms.length; omega) (by show ms.length - (i + 1) < ms.length - i; omega) 17 rfl rfl ⟨rfl, trivial⟩ rfl (by dsimp only; rw [prS_no (by omega)])
    ·
      refine CJ.exit ?_
      refine EJ.thenE ?_
      refine EJ.thenE ?_
      refine EJ.inE ?_
      refine EJ.thenN (hK9 ?_)
      refine CJ.region ?_
      refine J.p (PR.loadAll rfl (.s (.s .z)) (by simpa [*] using ag29)) rfl ?_
      refine J.p (PR.loadAll rfl At.z (by simpa [*] using ag29)) rfl ?_
      refine J.call fn150 rfl rfl fun w hH => hH.lend (.s (.s (.s .z))) fun Hl1 hle1 hA1 hB1 hH => hH.lend (.s .z) fun Hl2 hle2 hA2 hB2 hH => (l01Add_c (M := 13) ((own_terms wfO hA1).le hle2) (own_terms wfP hA2) (by rw [toS_ofS]; exact hls) (by rw [toS_ofS]; exact hpr.sok.g) (by omega) (by omega) (by rw [ofS_len, ofS_len]; omega) hH).mono ?_
      rintro _ w ⟨qo61, co61, rfl, hH⟩
      replace hH := hB2 _ _ hH
      replace hH := hB1 _ _ hH
      refine ⟨_, rfl, fun a hF => J.of hF hH ?_⟩
      refine J.storeAll rfl rfl (by first | exact bytesC_one _ | exact intsC_one _ | exact Term.c_one _ | simp [Value.oneCell']) (by simpa [*] using sz29) (by simp [*]) (.s (.s (.s (.s .z)))) ?_
      refine J.nil ?_
      refine EJ.inN ?_
      refine EJ.thenN (hK7 ?_)
      refine CJ.region ?_
      refine J.p (PR.move rfl) rfl ?_
      refine J.p (PR.add rfl rfl (by first | exact nw _ (by omega) | rfl)) rfl ?_
      refine J.p (PR.assign rfl) rfl ?_
      refine J.nil ?_
      refine EJ.thenN ?_
      refine EJ.drop .z ?_
      refine EJ.drop .z ?_
      refine EJ.drop (.s .z) ?_
      refine EJ.front (.s (.s (.s .z))) ?_
      refine EJ.front (.s (.s (.s .z))) ?_
      refine EJ.front (.s (.s .z)) ?_
      refine EJ.front (.s (.s (.s .z))) ?_
      exact hAg0 (qo61, co61, k + 1) (by show k + 1 ≤ ts.length; omega) (by show ts.length - (k + 1) < ts.length - k; omega) 27 rfl rfl ⟨rfl, trivial⟩ rfl (by dsimp only; simp only [toS_ofS]; rw [show i = ms.length by omega, hL.step hxi hxv hls, lead_one hkl])
  ·
    refine CJ.exit ?_
    refine EJ.thenE ?_
    refine EJ.thenE ?_
    refine EJ.inE ?_
    refine EJ.thenN (hK3 ?_)
    refine CJ.seq fun _ hK15 _ => ?_
    refine CJ.region ?_
    refine J.p (PR.loadAll rfl At.z (by simpa [*] using ag29)) rfl ?_
    refine J.storeAll rfl rfl (by first | exact bytesC_one _ | exact intsC_one _ | exact Term.c_one _ | simp [Value.oneCell']) (by simpa [*] using sz29) (by simp [*]) (.s (.s .z)) ?_
    refine J.nil ?_
    refine EJ.thenN (hK15 ?_)
    refine CJ.ret ?_
    refine EJ.ret1 rfl (Res.agg rfl (.s (.s .z)) (by simpa [*] using ag29)) fun w hH => ?_
    replace hH := hH.sublist (.cons _ (.cons_cons _ (.cons _ (.cons _ (List.Sublist.refl _)))))
    obtain rfl : k = ts.length := by omega
    rw [List.take_length] at hH ⊢
    exact ⟨_, _, rfl, hH⟩
end Go.Proofs.Ytpojpokldncglaa.G
namespace Go.Proofs.Ytpojpokldncglaa.G
open Go Go.RowKit
namespace Qe
theorem u2 : Try.prog.underlying 2 = some (TypeDesc.int .i64) := by kernel_rfl
theorem u22 : Try.prog.underlying 22 = some (TypeDesc.slice 2) := by kernel_rfl
theorem u27 : Try.prog.underlying 27 = some (TypeDesc.slice 88) := by kernel_rfl
theorem u29 : Try.prog.underlying 29 = some (TypeDesc.struct #[{ name := "Terms", type := 27, offset := 0, embedded := false, tag := "", pkgPath := "", byteOffset := 0 }]) := by kernel_rfl
theorem u39 : Try.prog.underlying 39 = some (TypeDesc.slice 29) := by kernel_rfl
theorem u41 : Try.prog.underlying 41 = some (TypeDesc.struct #[{ name := "Degrees", type := 22, offset := 0, embedded := false, tag := "", pkgPath := "", byteOffset := 0 }, { name := "Images", type := 39, offset := 1, embedded := false, tag := "", pkgPath := "", byteOffset := 24 }]) := by kernel_rfl
theorem sz2 : Size Try.prog 2 1 := by unfold Size; kernel_rfl
theorem sz22 : Size Try.prog 22 1 := by unfold Size; kernel_rfl
theorem sz27 : Size Try.prog 27 1 := by unfold Size; kernel_rfl
theorem sz29 : Size Try.prog 29 1 := by unfold Size; kernel_rfl
theorem sz39 : Size Try.prog 39 1 := by unfold Size; kernel_rfl
theorem pl2 : Plain Try.prog 2 := ⟨_, u2, rfl⟩
theorem pl22 : Plain Try.prog 22 := ⟨_, u22, rfl⟩
theorem pl27 : Plain Try.prog 27 := ⟨_, u27, rfl⟩
theorem pl39 : Plain Try.prog 39 := ⟨_, u39, rfl⟩
theorem ag29 : Agg Try.prog 29 1 := ⟨_, u29, rfl, by kernel_rfl⟩
theorem ag41 : Agg Try.prog 41 2 := ⟨_, u41, rfl, by kernel_rfl⟩
theorem fn119 : Fn Try.prog 119 := ⟨_, Try.func119, by kernel_rfl, rfl⟩
theorem fn124 : Fn Try.prog 124 := ⟨_, Try.func124, by kernel_rfl, rfl⟩
theorem fn129 : Fn Try.prog 129 := ⟨_, Try.func129, by kernel_rfl, rfl⟩
theorem fn150 : Fn Try.prog 150 := ⟨_, Try.func150, by kernel_rfl, rfl⟩
theorem fn162 : Fn Try.prog 162 := ⟨_, Try.func162, by kernel_rfl, rfl⟩
theorem fn89 : Fn Try.prog 89 := ⟨_, Try.func89, by kernel_rfl, rfl⟩
theorem fn98 : Fn Try.prog 98 := ⟨_, Try.func98, by kernel_rfl, rfl⟩
theorem foll0 : Try.prog.follows .mixedOrders = true := by kernel_rfl
end Qe
open Qe
theorem degOk_wt {ds : List Int} {ts : List Term} {x : Int} (hn : ds.length ≤ 8) (hd : ∀ j, 0 ≤ ds.getD j 0 ∧ ds.getD j 0 ≤ 12) (hw : Wfs ts) (h : degOk ds ts x = true) : ∀ y ∈ toS ts, wsum ds y.1 ds.length = x := by
  intro y hy
  unfold degOk at h
  obtain ⟨h1, h2⟩ := Bool.and_eq_true_iff.1 h
  obtain ⟨t, ht, rfl⟩ := List.mem_map.1 hy
  obtain ⟨j, hj, rfl⟩ := List.mem_iff_getElem.1 ht
  have h3 : wd ds ts j = wd ds ts 0 := by simpa using List.all_eq_true.1 h1 j (by simpa using hj)
  have h4 := degF_neg hn hd hw h1
  have h5 : degF ds ts = x := by
    rcases (Bool.or_eq_true_iff.1 h2) with h | h
    · exact absurd (of_decide_eq_true h) (fun e => h4.1 e (by omega))
    · exact of_decide_eq_true h
  unfold degF outAt at h5
  rw [h1, if_pos rfl, if_neg (by omega)] at h5
  rw [tm_eq hj]
  show wd ds ts j = x
  omega
theorem form_ws {ds : List Int} {ts : List Term} {x : Int} (hD : isDeg ds = true) (hw : Wfs ts) (hf : isForm ds ts = true) (hd : degOk ds ts x = true) (h13 : x ≤ 13) : Ws ds x (toS ts) :=
  Ws.of (Dg.of hD) (isForm_sok hw hf) (isForm_kex (isDeg_bd hD) (isDeg_len hD) hw hf) (degOk_wt (isDeg_len hD) (isDeg_bd hD) hw hd) h13
def mpOk (bd : List Int) (ms : List (List Term)) (ad : List Int) (i : Nat) : Bool := isForm bd (fm ms i) && degOk bd (fm ms i) (ad.getD i 0)
def mpsOk (bd : List Int) (ms : List (List Term)) (ad : List Int) : Bool := (List.range ms.length).all (mpOk bd ms ad)
def kpS (bd : List Int) (bf ms af : List (List Term)) (i : Nat) : Sm := acc (leadS bd (ssF ms) ms.length (toS (fm af i))) (scl (dS bd bf (toS (fm ms i))) 10006)
def kps (bd : List Int) (bf ms af : List (List Term)) : Bool := (List.range af.length).all fun i => decide ((kpS bd bf ms af i).length = 0)
def isMp (ad : List Int) (af : List (List Term)) (bd : List Int) (bf ms : List (List Term)) : Bool := isAlg ad af && isAlg bd bf && (decide (ms.length = ad.length) && mpsOk bd ms ad && kps bd bf ms af)
theorem mpsOk_bad {bd ad : List Int} {ms : List (List Term)} {i : Nat} (hi : i < ms.length) (h : mpOk bd ms ad i = false) : mpsOk bd ms ad = false := List.all_eq_false.2 ⟨i, by simpa using hi, by simp [h]⟩
theorem mpsOk_good {bd ad : List Int} {ms : List (List Term)} (h : ∀ j, j < ms.length → mpOk bd ms ad j = true) : mpsOk bd ms ad = true := List.all_eq_true.2 fun j hj => h j (by simpa using hj)
theorem mpsOk_at {bd ad : List Int} {ms : List (List Term)} (h : mpsOk bd ms ad = true) {i : Nat} (hi : i < ms.length) : mpOk bd ms ad i = true := List.all_eq_true.1 h i (by simpa using hi)
theorem kps_bad {bd : List Int} {bf ms af : List (List Term)} {i : Nat} (hi : i < af.length) (h : ¬ (kpS bd bf ms af i).length = 0) : kps bd bf ms af = false := List.all_eq_false.2 ⟨i, by simpa using hi, by simpa using h⟩
theorem kps_good {bd : List Int} {bf ms af : List (List Term)} (h : ∀ j, j < af.length → (kpS bd bf ms af j).length = 0) : kps bd bf ms af = true := List.all_eq_true.2 fun j hj => by simpa using h j (by simpa using hj)
theorem mpOk_yes {bd ad : List Int} {ms : List (List Term)} {i : Nat} (h1 : isForm bd (fm ms i) = true) (h2 : homog bd (fm ms i) = true) (h3 : degF bd (fm ms i) = -1 ∨ degF bd (fm ms i) = ad.getD i 0) : mpOk bd ms ad i = true := by
  unfold mpOk degOk
  rw [h1, h2]
  rcases h3 with h | h <;> rw [decide_eq_true h] <;> simp
theorem mpOk_no1 {bd ad : List Int} {ms : List (List Term)} {i : Nat} (h1 : isForm bd (fm ms i) = false) : mpOk bd ms ad i = false := by unfold mpOk; rw [h1]; rfl
theorem mpOk_no2 {bd ad : List Int} {ms : List (List Term)} {i : Nat} (h1 : homog bd (fm ms i) = false) : mpOk bd ms ad i = false := by unfold mpOk degOk; rw [h1]; simp
theorem mpOk_no3 {bd ad : List Int} {ms : List (List Term)} {i : Nat} (h1 : ¬ degF bd (fm ms i) = -1) (h2 : ¬ degF bd (fm ms i) = ad.getD i 0) : mpOk bd ms ad i = false := by unfold mpOk degOk; rw [decide_eq_false h1, decide_eq_false h2]; simp
theorem isAlg_im {ds : List Int} {fs : List (List Term)} (h : isAlg ds fs = true) : imsOk ds fs = true := by
  unfold isAlg at h
  simp only [Bool.and_eq_true] at h
  exact h.1.2
theorem Ld.map {ad bd : List Int} {af ms : List (List Term)} (hA : isAlg ad af = true) (hB : isDeg bd = true) (hwa : Wfss af) (hwm : Wfss ms) (hl : ms.length = ad.length) (h : ∀ j, j < ms.length → mpOk bd ms ad j = true) {i : Nat} (hi : i < af.length) : Ld bd ad (ssF ms) ms.length 20 (toS (fm af i)) := by
  have hD := isAlg_deg hA
  have hd := isDeg_bd hD
  have h1 := imsOk_at (isAlg_im hA) hi
  unfold imOk at h1
  obtain ⟨h2, h3⟩ := Bool.and_eq_true_iff.1 h1
  refine ⟨Dg.of hB, fun j => (hd j).1, fun j hj => ?_, isForm_sok (hwa.fm i) h2, fun x hx => ?_⟩
  · have h4 := h j hj
    unfold mpOk at h4
    obtain ⟨h5, h6⟩ := Bool.and_eq_true_iff.1 h4
    exact form_ws hB (hwm.fm j) h5 h6 (by have := hd j; omega)
  · rw [hl, degOk_wt (isDeg_len hD) hd (hwa.fm i) h3 x hx]
    have := hd i
    omega
theorem dS_len {ds : List Int} {fs : List (List Term)} {ts : List Term} (hL : ∀ i, i < fs.length → (fm fs i).length ≤ 10000) (ho : Occ fs.length (toS ts)) : (dS ds fs (toS ts)).length ≤ ts.length * 80000 := by
  have h1 := acc_len (dAll ds fs (toS ts)) []
  have h2 := dAll_len (ds := ds) hL ho
  rw [toS_len] at h2
  unfold dS
  simp only [List.length_nil] at h1
  omega
set_option maxHeartbeats 8000000 in
set_option maxRecDepth 10000 in
theorem l04Is_c {B : World} {H0 H : HP} {L : List SA} {w : World} {qad qaf : Option Addr} {cad caf : Nat} {ad : List Int} {af : List (List Term)} {qbd qbf : Option Addr} {cbd cbf : Nat} {bd : List Int} {bf : List (List Term)} {qms : Option Addr} {cms : Nat} {ms : List (List Term)}  (had : Ints H qad ad) (haf : Forms H qaf af) (hbd : Ints H qbd bd) (hbf : Forms H qbf bf) (hms : Forms H qms ms) (hn8 : ad.length ≤ 1048576) (hn9 : af.length ≤ 1048576) (hl9 : ∀ i, i < af.length → (fm af i).length ≤ 1048576) (hbn8 : bd.length ≤ 1048576) (hbn9 : bf.length ≤ 1048576) (hbl9 : ∀ i, i < bf.length → (fm bf i).length ≤ 1048576) (hmn9 : ms.length ≤ 1048576) (hml9 : ∀ i, i < ms.length → (fm ms i).length ≤ 1048576) (hH : Hp B H0 H L w) :
    Calls Try.prog 124 [.agg [.slice qad ad.length cad, .slice qaf af.length caf].toArray, .agg [.slice qbd bd.length cbd, .slice qbf bf.length cbf].toArray, .slice qms ms.length cms].toArray w fun e w' => e = .returned (.bool (isMp ad af bd bf ms)) ∧ Hp B H0 H L w' := by
  refine CJ.enter Try.func124 rfl 96 rfl rfl [(0, .agg [.slice qad ad.length cad, .slice qaf af.length caf].toArray), (1, .agg [.slice qbd bd.length cbd, .slice qbf bf.length cbf].toArray), (2, .slice qms ms.length cms)] rfl hH ?_
  clear hH
  refine CJ.seq fun _ hK1 _ => ?_
  refine CJ.region ?_
  refine J.box rfl rfl rfl fun g3 => ?_
  refine J.box rfl rfl rfl fun g4 => ?_
  refine J.p (PR.assign rfl) rfl ?_
  refine J.nil ?_
  refine EJ.thenN (hK1 ?_)
  refine CJ.seq fun _ hK2 _ => ?_
  refine CJ.seq fun _ hK3 _ => ?_
  refine CJ.region ?_
  refine J.p (PR.loadAll rfl (.s .z) (by simpa [*] using ag41)) rfl ?_
  refine J.call fn89 rfl rfl fun w hH => (l02Is_c had haf (by omega) (by omega) (by omega) hH).mono ?_
  rintro _ w ⟨rfl, hH⟩
  refine ⟨_, rfl, fun a hF => J.of hF hH ?_⟩
  refine J.p (PR.not rfl) rfl ?_
  refine J.p (PR.move rfl) rfl ?_
  refine J.splitB (jd := 14) rfl (fun hg14 => ?_) (fun hg14 => ?_)
  ·
    try have hg14p := of_decide_eq_true hg14
    refine J.gn rfl rfl rfl hg14 ?_
    refine J.gn rfl rfl rfl hg14 ?_
    refine J.gn rfl rfl rfl hg14 ?_
    refine J.p (PR.pickT rfl hg14 rfl) rfl ?_
    refine J.p (PR.move rfl) rfl ?_
    refine J.gn rfl rfl rfl rfl ?_
    refine J.gn rfl rfl rfl rfl ?_
    refine J.gn rfl rfl rfl rfl ?_
    refine J.gn rfl rfl rfl rfl ?_
    refine J.gn rfl rfl rfl rfl ?_
    refine J.gn rfl rfl rfl rfl ?_
    refine J.p (PR.pickT rfl rfl rfl) rfl ?_
    refine J.nil ?_
    refine EJ.thenN (hK3 ?_)
    refine CJ.condT rfl ?_
    refine CJ.seq fun _ hK4 _ => ?_
    refine CJ.region ?_
    refine J.p (PR.assign rfl) rfl ?_
    refine J.nil ?_
    refine EJ.thenN (hK4 ?_)
    refine CJ.ret ?_
    refine EJ.thenR ?_
    refine EJ.ret1 rfl (Res.tmp rfl) fun w hH => ?_
    replace hH := hH.tail
    replace hH := hH.tail
    exact ⟨rb (by unfold isMp; rw [show isAlg ad af = false by simpa using hg14]; rfl), hH⟩
  ·
    try have hg14p := of_decide_eq_false hg14
    refine J.gy (PR.loadAll rfl At.z (by simpa [*] using ag41)) rfl rfl rfl hg14 ?_
    refine J.gcall fn89 rfl rfl hg14 rfl rfl fun w hH => (l02Is_c hbd hbf (by omega) (by omega) (by omega) hH).mono ?_
    rintro _ w ⟨rfl, hH⟩
    refine ⟨_, rfl, fun a hF => J.of hF hH ?_⟩
    refine J.gy (PR.not rfl) rfl rfl rfl hg14 ?_
    refine J.p (PR.pickF rfl hg14 rfl) rfl ?_
    refine J.p (PR.move rfl) rfl ?_
    refine J.splitB (jd := 19) rfl (fun hg19 => ?_) (fun hg19 => ?_)
    ·
      try have hg19p := of_decide_eq_true hg19
      refine J.gn rfl rfl rfl hg19 ?_
      refine J.gn rfl rfl rfl hg19 ?_
      refine J.gn rfl rfl rfl hg19 ?_
      refine J.gn rfl rfl rfl hg19 ?_
      refine J.gn rfl rfl rfl hg19 ?_
      refine J.gn rfl rfl rfl hg19 ?_
      refine J.p (PR.pickT rfl hg19 rfl) rfl ?_
      refine J.nil ?_
      refine EJ.thenN (hK3 ?_)
      refine CJ.condT rfl ?_
      refine CJ.seq fun _ hK5 _ => ?_
      refine CJ.region ?_
      refine J.p (PR.assign rfl) rfl ?_
      refine J.nil ?_
      refine EJ.thenN (hK5 ?_)
      refine CJ.ret ?_
      refine EJ.thenR ?_
      refine EJ.ret1 rfl (Res.tmp rfl) fun w hH => ?_
      replace hH := hH.tail
      replace hH := hH.tail
      exact ⟨rb (by unfold isMp; rw [show isAlg bd bf = false by simpa using hg19]; simp), hH⟩
    ·
      try have hg19p := of_decide_eq_false hg19
      refine J.gy (PR.move rfl) rfl rfl rfl hg19 ?_
      refine J.gy (PR.lenSlice u39 rfl rfl) rfl rfl rfl hg19 ?_
      refine J.gy (PR.fldA u41 rfl sz22 rfl) rfl rfl rfl hg19 ?_
      refine J.gy (PR.load rfl (.s .z) rfl pl22) rfl rfl rfl hg19 ?_
      refine J.gy (PR.lenSlice u22 rfl rfl) rfl rfl rfl hg19 ?_
      refine J.gy (PR.neq rfl rfl) rfl rfl rfl hg19 ?_
      refine J.p (PR.pickF rfl hg19 rfl) rfl ?_
      refine J.nil ?_
      refine EJ.thenN (hK3 ?_)
      refine CJ.condD rfl (fun hc26 => ?_) (fun hc26 => ?_)
      ·
        refine CJ.seq fun _ hK6 _ => ?_
        refine CJ.region ?_
        refine J.p (PR.assign rfl) rfl ?_
        refine J.nil ?_
        refine EJ.thenN (hK6 ?_)
        refine CJ.ret ?_
        refine EJ.thenR ?_
        refine EJ.ret1 rfl (Res.tmp rfl) fun w hH => ?_
        replace hH := hH.tail
        replace hH := hH.tail
        exact ⟨rb (by unfold isMp; rw [decide_eq_false (show ¬ ms.length = ad.length by omega)]; simp), hH⟩
      ·
        have hAa : isAlg ad af = true := by simpa using hg14
        have hBb : isAlg bd bf = true := by simpa using hg19
        have hAo := isAlg_ok hAa haf.wfss
        have hBo := isAlg_ok hBb hbf.wfss
        have hn := hBo.hn
        have hd := hBo.hd
        have hal := hAo.hl
        have han := hAo.hn
        have hlen : ms.length = ad.length := by omega
        have hpos9 : ∀ j, j < bd.length → 0 ≤ bd.getD j 0 := fun j _ => (hd j).1
        refine CJ.skip ?_
        refine EJ.thenN (hK2 ?_)
        refine CJ.seq fun _ hK7 _ => ?_
        refine CJ.seq fun _ hK8 _ => ?_
        refine CJ.region ?_
        refine J.p (PR.assign rfl) rfl ?_
        refine J.nil ?_
        refine EJ.thenN (hK8 ?_)
        refine CJ.block ?_
        refine CJ.loopU (σ := Nat) (fun (i : Nat) => [(7, .int .i64 (i : Int))]) (fun (i : Nat) => H) (fun (i : Nat) => obj g4 (.cells [.slice qbd bd.length cbd, .slice qbf bf.length cbf].toArray 41 (0, 0)) :: obj g3 (.cells [.slice qad ad.length cad, .slice qaf af.length caf].toArray 41 (0, 0)) :: L) (fun (i : Nat) => i ≤ ms.length ∧ ∀ j, j < i → mpOk bd ms ad j = true) (fun (i : Nat) => ms.length - i) 0 ⟨by omega, fun j hj => by omega⟩ ⟨rfl, trivial⟩ rfl rfl ?_
        rintro i ⟨hi, hI⟩ _ hAg0
        refine CJ.seq fun _ hK9 _ => ?_
        refine CJ.seq fun _ hK10 _ => ?_
        refine CJ.region ?_
        refine J.p (PR.move rfl) rfl ?_
        refine J.p (PR.move rfl) rfl ?_
        refine J.p (PR.lenSlice u39 rfl rfl) rfl ?_
        refine J.p (PR.lss rfl rfl) rfl ?_
        refine J.nil ?_
        refine EJ.thenN (hK10 ?_)
        refine CJ.condD rfl (fun hc30 => ?_) (fun hc30 => ?_)
        ·
          have hl0 := hml9 i (by omega)
          have hdi := hAo.hd i
          refine CJ.skip ?_
          refine EJ.thenN (hK9 ?_)
          refine CJ.seq fun _ hK11 _ => ?_
          refine CJ.block ?_
          refine CJ.seq fun _ hK12 _ => ?_
          refine CJ.seq fun _ hK13 _ => ?_
          refine CJ.head [[], [0], [], [], [2, 3], [4]] (by kernel_rfl) ?_
          refine HJ.op (fun gh => PR.fldA u41 rfl sz22 rfl) ?_
          refine HJ.op (fun gh => PR.load rfl At.z rfl pl22) ?_
          refine HJ.op (fun gh => PR.move rfl) ?_
          refine HJ.op (fun gh => PR.move rfl) ?_
          refine HJ.op (fun gh => PR.idx1 u39 sz29 rfl rfl rfl (by omega) hms.sm) ?_
          obtain ⟨qe38, ce38, he38, le38, Fe38⟩ := hms i (by omega)
          refine HJ.op (fun gh => PR.loadHagg (cs := [_]) rfl (one_cell he38) (hms.sm (i := i) (by omega)) ag29) ?_
          refine HJ.close 6 1 foll0 (by kernel_rfl) rfl rfl fun gh => ?_
          refine J.conv (us' := (33, _) :: (34, _) :: (35, _) :: (36, _) :: (37, _) :: (38, _) :: _) (L' := _) rfl rfl ?_
          refine J.call fn129 rfl rfl fun w hH => (l01Is_c hbd Fe38 (by omega) hpos9 (by omega) hH).mono ?_
          rintro _ w ⟨rfl, hH⟩
          refine ⟨_, rfl, fun a hF => J.of hF hH ?_⟩
          refine J.nil ?_
          refine EJ.still ?_
          refine JS.op (PR.not rfl) rfl ?_
          refine JS.nil ?_
          refine EJ.thenN (hK13 ?_)
          refine CJ.cond rfl (fun h40 => ?_) (fun h40 => ?_)
          ·
            refine CJ.seq fun _ hK14 _ => ?_
            refine CJ.region ?_
            refine J.p (PR.assign rfl) rfl ?_
            refine J.nil ?_
            refine EJ.thenN (hK14 ?_)
            refine CJ.ret ?_
            refine EJ.thenR ?_
            refine EJ.inR ?_
            refine EJ.thenR ?_
            refine EJ.thenR ?_
            refine EJ.inR ?_
            refine EJ.thenR ?_
            refine EJ.ret1 rfl (Res.tmp rfl) fun w hH => ?_
            replace hH := hH.tail
            replace hH := hH.tail
            exact ⟨rb (by unfold isMp; rw [mpsOk_bad (i := i) (by omega) (mpOk_no1 (by simpa using h40))]; simp), hH⟩
          ·
            have hfo : isForm bd (fm ms i) = true := by simpa using h40
            refine CJ.skip ?_
            refine EJ.thenN (hK12 ?_)
            refine CJ.seq fun _ hK15 _ => ?_
            refine CJ.head [[], [0], [], [], [2, 3], [4]] (by kernel_rfl) ?_
            refine HJ.op (fun gh => PR.fldA u41 rfl sz22 rfl) ?_
            refine HJ.op (fun gh => PR.load rfl At.z rfl pl22) ?_
            refine HJ.op (fun gh => PR.move rfl) ?_
            refine HJ.op (fun gh => PR.move rfl) ?_
            refine HJ.op (fun gh => PR.idx1 u39 sz29 rfl rfl rfl (by omega) hms.sm) ?_
            obtain ⟨qe47, ce47, he47, le47, Fe47⟩ := hms i (by omega)
            refine HJ.op (fun gh => PR.loadHagg (cs := [_]) rfl (one_cell he47) (hms.sm (i := i) (by omega)) ag29) ?_
            refine HJ.close 6 1 foll0 (by kernel_rfl) rfl rfl fun gh => ?_
            refine J.conv (us' := (42, _) :: (43, _) :: (44, _) :: (45, _) :: (46, _) :: (47, _) :: _) (L' := _) rfl rfl ?_
            refine J.call fn119 rfl rfl fun w hH => (l01Degree_c hbd Fe47 hn hd (by omega) hH).mono ?_
            rintro _ w ⟨rfl, hH⟩
            refine ⟨_, rfl, fun a hF => J.of hF hH ?_⟩
            refine J.nil ?_
            refine EJ.still ?_
            refine JS.op (PR.move rfl) rfl ?_
            refine JS.op (PR.extract rfl rfl) rfl ?_
            refine JS.op (PR.extract rfl rfl) rfl ?_
            refine JS.op (PR.assign rfl) rfl ?_
            refine JS.op (PR.assign rfl) rfl ?_
            refine JS.nil ?_
            refine EJ.thenN (hK15 ?_)
            refine CJ.seq fun _ hK16 _ => ?_
            refine CJ.region ?_
            refine J.p (PR.move rfl) rfl ?_
            refine J.p (PR.not rfl) rfl ?_
            refine J.p (PR.move rfl) rfl ?_
            refine J.splitB (jd := 53) rfl (fun h53 => ?_) (fun h53 => ?_)
            ·
              try have h53p := of_decide_eq_true h53
              refine J.gn rfl rfl rfl h53 ?_
              refine J.gn rfl rfl rfl h53 ?_
              refine J.gn rfl rfl rfl h53 ?_
              refine J.gn rfl rfl rfl h53 ?_
              refine J.gn rfl rfl rfl h53 ?_
              refine J.gn rfl rfl rfl h53 ?_
              refine J.gn rfl rfl rfl h53 ?_
              refine J.gn rfl rfl rfl h53 ?_
              refine J.gu rfl rfl rfl ?_
              refine J.gu rfl rfl rfl ?_
              refine J.gu rfl rfl rfl ?_
              refine J.gu rfl rfl rfl ?_
              refine J.gu rfl rfl rfl ?_
              refine J.gu rfl rfl rfl ?_
              refine J.gu rfl rfl rfl ?_
              refine J.gn rfl rfl rfl h53 ?_
              refine J.p (PR.pickT rfl h53 rfl) rfl ?_
              refine J.nil ?_
              refine EJ.thenN (hK16 ?_)
              refine CJ.condT rfl ?_
              refine CJ.seq fun _ hK17 _ => ?_
              refine CJ.region ?_
              refine J.p (PR.assign rfl) rfl ?_
              refine J.nil ?_
              refine EJ.thenN (hK17 ?_)
              refine CJ.ret ?_
              refine EJ.inR ?_
              refine EJ.thenR ?_
              refine EJ.thenR ?_
              refine EJ.inR ?_
              refine EJ.thenR ?_
              refine EJ.ret1 rfl (Res.tmp rfl) fun w hH => ?_
              replace hH := hH.tail
              replace hH := hH.tail
              exact ⟨rb (by unfold isMp; rw [mpsOk_bad (i := i) (by omega) (mpOk_no2 (by simpa using h53))]; simp), hH⟩
            ·
              try have h53p := of_decide_eq_false h53
              refine J.gy (PR.move rfl) rfl rfl rfl h53 ?_
              refine J.gy (PR.move rfl) rfl rfl rfl h53 ?_
              refine J.gy (PR.idx1 u39 sz29 rfl rfl rfl (by omega) hms.sm) rfl rfl rfl h53 ?_
              refine J.gy (PR.fldP u29 rfl sz27 rfl (hms.sm (i := i) (by omega))) rfl rfl rfl h53 ?_
              obtain ⟨qe58, ce58, he58, le58, Fe58⟩ := hms i (by omega)
              refine J.gy (PR.loadH rfl he58 pl27) rfl rfl rfl h53 ?_
              refine J.gy (PR.lenSlice u27 rfl rfl) rfl rfl rfl h53 ?_
              refine J.gy (PR.gtr rfl rfl) rfl rfl rfl h53 ?_
              refine J.gy (PR.move rfl) rfl rfl rfl h53 ?_
              refine J.splitB (jd := 61) rfl (fun h61 => ?_) (fun h61 => ?_)
              ·
                try have h61p := of_decide_eq_true h61
                refine J.gy (PR.move rfl) rfl rfl rfl h61 ?_
                refine J.gy (PR.fldA u41 rfl sz22 rfl) rfl rfl rfl h61 ?_
                refine J.gy (PR.load rfl (.s .z) rfl pl22) rfl rfl rfl h61 ?_
                refine J.gy (PR.move rfl) rfl rfl rfl h61 ?_
                refine J.gy (PR.idx1 u22 sz2 rfl rfl rfl (by omega) had.sm) rfl rfl rfl h61 ?_
                refine J.gy (PR.loadH rfl (had _ (by omega)) pl2) rfl rfl rfl h61 ?_
                refine J.gy (PR.neq rfl rfl) rfl rfl rfl h61 ?_
                refine J.gy (PR.pickT rfl h61 rfl) rfl rfl rfl h53 ?_
                refine J.p (PR.pickF rfl h53 rfl) rfl ?_
                refine J.nil ?_
                refine EJ.thenN (hK16 ?_)
                refine CJ.condD rfl (fun h70 => ?_) (fun h70 => ?_)
                ·
                  refine CJ.seq fun _ hK18 _ => ?_
                  refine CJ.region ?_
                  refine J.p (PR.assign rfl) rfl ?_
                  refine J.nil ?_
                  refine EJ.thenN (hK18 ?_)
                  refine CJ.ret ?_
                  refine EJ.inR ?_
                  refine EJ.thenR ?_
                  refine EJ.thenR ?_
                  refine EJ.inR ?_
                  refine EJ.thenR ?_
                  refine EJ.ret1 rfl (Res.tmp rfl) fun w hH => ?_
                  replace hH := hH.tail
                  replace hH := hH.tail
                  exact ⟨rb (by unfold isMp; rw [mpsOk_bad (i := i) (by omega) (mpOk_no3 (fun e => (degF_neg hn hd (hms.wfss.fm i) (by simpa using h53)).1 e (by omega)) h70)]; simp), hH⟩
                ·
                  refine CJ.skip ?_
                  refine EJ.inN ?_
                  refine EJ.thenN (hK11 ?_)
                  refine CJ.region ?_
                  refine J.p (PR.move rfl) rfl ?_
                  refine J.p (PR.add rfl rfl (by first | exact nw _ (by omega) | rfl)) rfl ?_
                  refine J.p (PR.assign rfl) rfl ?_
                  refine J.nil ?_
                  refine EJ.thenN ?_
                  exact hAg0 (i + 1) ⟨by omega, upto hI (mpOk_yes hfo (by simpa using h53) (.inr (Decidable.not_not.1 h70)))⟩ (by omega) 48 rfl rfl ⟨rfl, trivial⟩ rfl rfl
              ·
                try have h61p := of_decide_eq_false h61
                refine J.gn rfl rfl rfl h61 ?_
                refine J.gn rfl rfl rfl h61 ?_
                refine J.gn rfl rfl rfl h61 ?_
                refine J.gn rfl rfl rfl h61 ?_
                refine J.gn rfl rfl rfl h61 ?_
                refine J.gn rfl rfl rfl h61 ?_
                refine J.gn rfl rfl rfl h61 ?_
                refine J.gy (PR.pickF rfl h61 rfl) rfl rfl rfl h53 ?_
                refine J.p (PR.pickF rfl h53 rfl) rfl ?_
                refine J.nil ?_
                refine EJ.thenN (hK16 ?_)
                refine CJ.condF rfl ?_
                refine CJ.skip ?_
                refine EJ.inN ?_
                refine EJ.thenN (hK11 ?_)
                refine CJ.region ?_
                refine J.p (PR.move rfl) rfl ?_
                refine J.p (PR.add rfl rfl (by first | exact nw _ (by omega) | rfl)) rfl ?_
                refine J.p (PR.assign rfl) rfl ?_
                refine J.nil ?_
                refine EJ.thenN ?_
                exact hAg0 (i + 1) ⟨by omega, upto hI (mpOk_yes hfo (by simpa using h53) (.inl ((degF_neg hn hd (hms.wfss.fm i) (by simpa using h53)).2 (by omega))))⟩ (by omega) 48 rfl rfl ⟨rfl, trivial⟩ rfl rfl
        ·
          have hM9 := mpsOk_good (bd := bd) (ad := ad) (ms := ms) (fun j hj => hI j (by omega))
          refine CJ.exit ?_
          refine EJ.thenE ?_
          refine EJ.thenE ?_
          refine EJ.inE ?_
          refine EJ.thenN (hK7 ?_)
          refine CJ.seq fun _ hK19 _ => ?_
          refine CJ.seq fun _ hK20 _ => ?_
          refine CJ.region ?_
          refine J.p (PR.assign rfl) rfl ?_
          refine J.nil ?_
          refine EJ.thenN (hK20 ?_)
          refine CJ.block ?_
          refine CJ.loopU (σ := Nat) (fun (k : Nat) => [(10, .int .i64 (k : Int))]) (fun (k : Nat) => H) (fun (k : Nat) => obj g4 (.cells [.slice qbd bd.length cbd, .slice qbf bf.length cbf].toArray 41 (0, 0)) :: obj g3 (.cells [.slice qad ad.length cad, .slice qaf af.length caf].toArray 41 (0, 0)) :: L) (fun (k : Nat) => k ≤ ms.length ∧ ∀ j, j < k → (kpS bd bf ms af j).length = 0) (fun (k : Nat) => ms.length - k) 0 ⟨by omega, fun j hj => by omega⟩ ⟨rfl, trivial⟩ rfl rfl ?_
          rintro k ⟨hk, hJ⟩ _ hAg1
          refine CJ.seq fun _ hK21 _ => ?_
          refine CJ.seq fun _ hK22 _ => ?_
          refine CJ.region ?_
          refine J.p (PR.move rfl) rfl ?_
          refine J.p (PR.move rfl) rfl ?_
          refine J.p (PR.lenSlice u39 rfl rfl) rfl ?_
          refine J.p (PR.lss rfl rfl) rfl ?_
          refine J.nil ?_
          refine EJ.thenN (hK22 ?_)
          refine CJ.condD rfl (fun hc74 => ?_) (fun hc74 => ?_)
          ·
            have hka : k < af.length := by omega
            have hLd := Ld.map hAa (isAlg_deg hBb) haf.wfss hms.wfss hlen (fun j hj => mpsOk_at hM9 hj) hka
            have hls := hLd.lead
            have hll := hLd.len
            rw [toS_len] at hll
            have ha4 := isForm_len4 (hAo.ok k hka)
            have hm5 := (Bool.and_eq_true_iff.1 (mpsOk_at hM9 (show k < ms.length by omega))).1
            have hms9 := isForm_sok (hms.wfss.fm k) hm5
            have hmk := isForm_kex hd hn (hms.wfss.fm k) hm5
            have hoc := Ex.occ hmk hBo.hl
            have hdl := dS_len (ds := bd) hBo.len hoc
            have hm4 := isForm_len4 hm5
            have hds := dS_sok (ds := bd) hms9 hBo.fok hoc
            refine CJ.skip ?_
            refine EJ.thenN (hK21 ?_)
            refine CJ.seq fun _ hK23 _ => ?_
            refine CJ.block ?_
            refine CJ.seq fun _ hK24 _ => ?_
            refine CJ.head [[], [0], [], [], [3], [], [4, 5], [6], [1, 2, 7], [], [], [], [10, 11], [12]] (by kernel_rfl) ?_
            refine HJ.op (fun gh => PR.fldA u41 rfl sz22 rfl) ?_
            refine HJ.op (fun gh => PR.load rfl At.z rfl pl22) ?_
            refine HJ.op (fun gh => PR.move rfl) ?_
            refine HJ.op (fun gh => PR.fldA u41 rfl sz39 rfl) ?_
            refine HJ.op (fun gh => PR.load rfl (.s .z) rfl pl39) ?_
            refine HJ.op (fun gh => PR.move rfl) ?_
            refine HJ.op (fun gh => PR.idx1 u39 sz29 rfl rfl rfl (by omega) haf.sm) ?_
            obtain ⟨qe84, ce84, he84, le84, Fe84⟩ := haf k (by omega)
            refine HJ.op (fun gh => PR.loadHagg (cs := [_]) rfl (one_cell he84) (haf.sm (i := k) (by omega)) ag29) ?_
            refine HJ.callN fn162 (fun gh => rfl) (fun w X hH => l04Apply_c hbd hms Fe84 hLd (by omega) (by omega) (by omega) hH) ?_
            refine HJ.op (fun gh => PR.loadAll rfl At.z (by simpa [*] using ag41)) ?_
            refine HJ.op (fun gh => PR.move rfl) ?_
            refine HJ.op (fun gh => PR.move rfl) ?_
            refine HJ.op (fun gh => PR.idx1 u39 sz29 rfl rfl rfl (by omega) hms.sm) ?_
            obtain ⟨qe90, ce90, he90, le90, Fe90⟩ := hms k (by omega)
            refine HJ.op (fun gh => PR.loadHagg (cs := [_]) rfl (one_cell he90) (hms.sm (i := k) (by omega)) ag29) ?_
            refine HJ.close 14 2 foll0 (by kernel_rfl) rfl rfl fun gh => ?_
            refine J.conv (us' := (77, _) :: (78, _) :: (79, _) :: (80, _) :: (81, _) :: (82, _) :: (83, _) :: (84, _) :: (85, _) :: (86, _) :: (87, _) :: (88, _) :: (89, _) :: (90, _) :: _) (L' := _ :: _) rfl rfl ?_
            refine J.call fn98 rfl rfl fun w hH => (l02D_c hbd hbf Fe90 hn hd hBo.fok hBo.hl hBo.kex hms9 hmk (by omega) hBo.len (by omega) hH).mono ?_
            rintro _ w ⟨qo91, co91, rfl, hH⟩
            refine ⟨_, rfl, fun a hF => J.of hF hH ?_⟩
            refine J.call fn150 rfl rfl fun w hH => hH.lend (.s .z) fun Hl1 hle1 hA1 hB1 hH => hH.lend .z fun Hl2 hle2 hA2 hB2 hH => (l01Add_c (M := 60) ((own_terms (hls.wf (by omega)) hA1).le hle2) (own_terms (hds.wf (by omega)) hA2) (by rw [toS_ofS]; exact hls.mono (by omega)) (by rw [toS_ofS]; exact hds.g) (by omega) (by omega) (by rw [ofS_len, ofS_len]; omega) hH).mono ?_
            rintro _ w ⟨qo92, co92, rfl, hH⟩
            replace hH := hB2 _ _ hH
            replace hH := hB1 _ _ hH
            refine ⟨_, rfl, fun a hF => J.of hF hH ?_⟩
            refine J.nil ?_
            refine EJ.still ?_
            refine JS.op (PR.fieldV u29 rfl pl27 rfl rfl) rfl ?_
            refine JS.op (PR.lenSlice u27 rfl rfl) rfl ?_
            refine JS.op (PR.gtr rfl rfl) rfl ?_
            refine JS.nil ?_
            refine EJ.thenN (hK24 ?_)
            refine CJ.condD rfl (fun h95 => ?_) (fun h95 => ?_)
            ·
              refine CJ.seq fun _ hK25 _ => ?_
              refine CJ.region ?_
              refine J.p (PR.assign rfl) rfl ?_
              refine J.nil ?_
              refine EJ.thenN (hK25 ?_)
              refine CJ.ret ?_
              refine EJ.inR ?_
              refine EJ.thenR ?_
              refine EJ.thenR ?_
              refine EJ.inR ?_
              refine EJ.thenR ?_
              refine EJ.ret1 rfl (Res.tmp rfl) fun w hH => ?_
              replace hH := hH.tail
              replace hH := hH.tail
              replace hH := hH.tail
              replace hH := hH.tail
              replace hH := hH.tail
              exact ⟨rb (by unfold isMp; rw [kps_bad (i := k) (by omega) (by simp only [toS_ofS, ofS_len] at h95; show ¬ (acc _ _).length = 0; omega)]; simp), hH⟩
            ·
              refine CJ.skip ?_
              refine EJ.inN ?_
              refine EJ.thenN (hK23 ?_)
              refine CJ.region ?_
              refine J.p (PR.move rfl) rfl ?_
              refine J.p (PR.add rfl rfl (by first | exact nw _ (by omega) | rfl)) rfl ?_
              refine J.p (PR.assign rfl) rfl ?_
              refine J.nil ?_
              refine EJ.thenN ?_
              refine EJ.drop .z ?_
              refine EJ.drop .z ?_
              refine EJ.drop .z ?_
              exact hAg1 (k + 1) ⟨by omega, upto hJ (by simp only [toS_ofS, ofS_len] at h95; show (acc _ _).length = 0; omega)⟩ (by omega) 27 rfl rfl ⟨rfl, trivial⟩ rfl rfl
          ·
            refine CJ.exit ?_
            refine EJ.thenE ?_
            refine EJ.thenE ?_
            refine EJ.inE ?_
            refine EJ.thenN (hK19 ?_)
            refine CJ.seq fun _ hK26 _ => ?_
            refine CJ.region ?_
            refine J.p (PR.assign rfl) rfl ?_
            refine J.nil ?_
            refine EJ.thenN (hK26 ?_)
            refine CJ.ret ?_
            refine EJ.ret1 rfl (Res.tmp rfl) fun w hH => ?_
            replace hH := hH.tail
            replace hH := hH.tail
            exact ⟨rb (by unfold isMp; rw [hAa, hBb, hM9, decide_eq_true hlen, kps_good (fun j hj => hJ j (by omega))]; rfl), hH⟩
end Go.Proofs.Ytpojpokldncglaa.G
namespace Go.Proofs.Ytpojpokldncglaa.G
open Go Go.RowKit
namespace Qf
theorem u107 : Try.prog.underlying 107 = some (TypeDesc.map 94 2) := by kernel_rfl
theorem u198 : Try.prog.underlying 198 = some (TypeDesc.array 2 3) := by kernel_rfl
theorem u3 : Try.prog.underlying 3 = some (TypeDesc.int .i64) := by kernel_rfl
theorem bz94 : ∀ w, (Instr.build 94 #[]).run Try.prog w = .ok (.agg [.int .i64 0, .int .i64 0, .int .i64 0, .int .i64 0, .int .i64 0, .int .i64 0, .int .i64 0, .int .i64 0].toArray) w := fun _ => by kernel_rfl
end Qf
open Qf
def k2Ok (p : Pw) : Prop := p.length = 2 ∧ Small p
theorem keyLits2 {P : Program} {t e : TypeId} {d : Nat} {p : Pw} (ht : P.underlying t = some (.array 2 e)) (he : P.underlying e = some (.int .i64)) (hc : P.cellsOf e = 1) (hct : P.cellsOf t = 2) (h : k2Ok p) : ∃ ls, P.keyLits (d + 2) t (intsC p) = some ls := by
  unfold Program.keyLits
  rw [ht]
  simp only [intsC_length, hct, h.1, if_true]
  have key : ∀ i, i < 2 → ∃ l, P.keyLits (d + 1) e (((intsC p).drop (i * P.cellsOf e)).take (P.cellsOf e)) = some l := by
    intro i hi
    have hb := h.2 i
    rw [hc, Nat.mul_one, List.drop_eq_getElem_cons (by simp [h.1]; omega), List.take_succ_cons, List.take_zero]
    have e1 : (intsC p)[i]'(by simp [h.1]; omega) = .int .i64 (p.getD i 0) := by
      have := intsC_get (m := p) (i := i) (by rw [h.1]; omega)
      rw [List.getElem?_eq_getElem (by simp [h.1]; omega)] at this
      exact Option.some.inj this
    rw [e1]
    refine ⟨[.int .i64 (p.getD i 0)], ?_⟩
    generalize p.getD i 0 = x at hb
    have hw : (Lit.int .i64 x).wf = true := by
      simp [Lit.wf, IntKind.min, IntKind.max, IntKind.signed, IntKind.bits]
      omega
    unfold Program.keyLits
    rw [he]
    simp [hw]
  have hm : ∀ (l : List Nat), (∀ i ∈ l, i < 2) → ∃ r, l.mapM (fun i => P.keyLits (d + 1) e (((intsC p).drop (i * P.cellsOf e)).take (P.cellsOf e))) = some r := by
    intro l
    induction l with
    | nil => intro _; exact ⟨[], rfl⟩
    | cons i l ih =>
      intro hl
      obtain ⟨a, ha⟩ := key i (hl i (by simp))
      obtain ⟨r, hr⟩ := ih fun j hj => hl j (by simp [hj])
      exact ⟨a :: r, by simp [List.mapM_cons, ha, hr]⟩
  obtain ⟨r, hr⟩ := hm (List.range 2) fun i hi => List.mem_range.1 hi
  rw [hr]
  exact ⟨_, rfl⟩
theorem k2K : KeyT Try.prog 198 pwE k2Ok := KeyT.of (Go.Maps.Keyed.of_law (deep_law_laid (m := 5) (by kernel_rfl) (by decide) (of_decide_eq_true (by kernel_rfl)) (by kernel_rfl) (by kernel_rfl))) pwE_inj fun p hp => by
  obtain ⟨ls, hl⟩ := keyLits2 (P := Try.prog) (t := 198) (e := 3) (d := Try.prog.types.size - 1) u198 u3 (by kernel_rfl) (by kernel_rfl) hp
  have e1 : Try.prog.types.size - 1 + 2 = Try.prog.types.size + 1 := by kernel_rfl
  rw [e1] at hl
  have hc8 : Try.prog.cellsOf 198 = 2 := by kernel_rfl
  have hf : (pwE p).formed Try.prog 198 = true := by
    simp [pwE, Value.formed, u198, hc8, hp.1]
  refine ⟨.string (keyBytes ls), ?_⟩
  unfold keyOf
  rw [u198]
  simp only []
  have hkt : Try.prog.keyType 198 = true := by kernel_rfl
  rw [hkt, hf]
  simp only [Bool.and_self, if_true]
  have : (pwE p).cells.toList = intsC p := by simp [pwE, Value.cells]
  rw [this, hl]
  rfl
def mvE (b : Nat) : Value := .map (some b)
abbrev okn (kb : Nat) (xs : List (Pw × Nat)) : SA := omap pwE mvE k2Ok kb xs
def kF (ds : Pw) (ss : Nat → Sm) (p : Pw) : Sm := pwS ds (ss (p.getD 0 0).toNat) (p.getD 1 0).toNat
theorem kF_at (ds : Pw) (ss : Nat → Sm) (i x : Nat) : kF ds ss [(i : Int), (x : Int)] = pwS ds (ss i) x := by simp [kF]
def sms (f : Pw → Sm) (n : Nat) (vs : Vs) (xs : List (Pw × Nat)) : SA where
  fp := fun b => ∃ j, j < n ∧ b = (vs j).2
  holds := fun h => ∀ x ∈ xs, (∃ j, j < n ∧ x.2 = (vs j).2) ∧ (osum x.2 (f x.1)).holds h
  loc := fun h h' hb hh x hx => by
    obtain ⟨⟨j, hj, e⟩, h2⟩ := hh x hx
    exact ⟨⟨j, hj, e⟩, (osum x.2 (f x.1)).loc h h' (fun b hb' => hb b ⟨j, hj, (show b = x.2 from hb').trans e⟩) h2⟩
def knw (f : Pw → Sm) (kb n : Nat) (vs : Vs) : SA where
  fp := fun b => b = kb ∨ ∃ j, j < n ∧ b = (vs j).2
  holds := fun h => ∃ xs, (okn kb xs).holds h ∧ (sms f n vs xs).holds h ∧ ∀ j, j < n → (vs j).2 ≠ kb
  loc := fun h h' hb hh => by
    obtain ⟨xs, h1, h2, h3⟩ := hh
    exact ⟨xs, (okn kb xs).loc h h' (fun b hb' => hb b (.inl hb')) h1, (sms f n vs xs).loc h h' (fun b hb' => hb b (.inr hb')) h2, h3⟩
def knwR (f : Pw → Sm) (kb n : Nat) (vs : Vs) (b : Nat) (s : Sm) : SA where
  fp := fun b => b = kb ∨ ∃ j, j < n ∧ b = (vs j).2
  holds := fun h => (knw f kb n vs).holds h ∧ (∃ j, j < n ∧ b = (vs j).2) ∧ (osum b s).holds h
  loc := fun h h' hb hh => by
    obtain ⟨h1, ⟨j, hj, e⟩, h2⟩ := hh
    exact ⟨(knw f kb n vs).loc h h' hb h1, ⟨j, hj, e⟩, (osum b s).loc h h' (fun b' hb' => hb b' (.inr ⟨j, hj, (show b' = b from hb').trans e⟩)) h2⟩
theorem knwR_H {f : Pw → Sm} {kb n b : Nat} {vs : Vs} {s : Sm} {h : HP} (hh : (knwR f kb n vs b s).holds h) : SumH h (.map (some b)) s := omap_H hh.2.2
section
variable {P : Program} {ops : Array Oper} {Q : Exit → Act → World → Prop} {n : Nat} {B : World} {H0 H : HP} {rest : List Oper} {us : List (Nat × Value)} {L L' : List SA} {R : Act → World → Prop} {w : World}
variable {f : Pw → Sm} {kb m b : Nat} {vs : Vs} {s : Sm} {xs ys : List (Pw × Nat)} {p : Pw}
theorem Hp.knwOpen (h : Hp B H0 H (knw f kb m vs :: L) w) : ∃ xs, Hp B H0 H (okn kb xs :: sms f m vs xs :: L) w := by
  obtain ⟨⟨xs, h1, h2, h3⟩, _⟩ := h.objs _ (List.mem_cons_self)
  refine ⟨xs, Hp.unstar (h.reAt (A' := G.star (okn kb xs) (sms f m vs xs)) .z ⟨h1, h2, fun b hb hb' => ?_⟩ fun b hb => hb)⟩
  obtain ⟨j, hj, e⟩ := hb'
  exact h3 j hj (e.symm.trans hb)
theorem Hp.knwShut (h : Hp B H0 H (okn kb xs :: sms f m vs xs :: L) w) : Hp B H0 H (knw f kb m vs :: L) w := by
  have h1 := h.star
  obtain ⟨⟨hA, hC, hd⟩, _⟩ := h1.objs (G.star (okn kb xs) (sms f m vs xs)) List.mem_cons_self
  exact h1.reAt .z ⟨xs, hA, hC, fun j hj e => hd kb rfl ⟨j, hj, e.symm⟩⟩ fun b hb => hb
theorem Hp.knwForget (h : Hp B H0 H (knwR f kb m vs b s :: L) w) : Hp B H0 H (knw f kb m vs :: L) w :=
  h.reAt .z (h.objs (knwR f kb m vs b s) List.mem_cons_self).1.1 fun b hb => hb
theorem Hp.knwGet (hs : f p = s) (hx : (p, b) ∈ xs) (h : Hp B H0 H (okn kb xs :: sms f m vs xs :: L) w) : Hp B H0 H (knwR f kb m vs b s :: L) w := by
  subst hs
  have h1 := h.knwShut
  obtain ⟨hA, _⟩ := h.objs (sms f m vs xs) (by simp)
  exact h1.reAt .z ⟨(h1.objs (knw f kb m vs) List.mem_cons_self).1, (hA _ hx).1, (hA _ hx).2⟩ fun b hb => hb
theorem Hp.smsAdd (hy : ∀ x ∈ ys, x ∈ xs ∨ (x.2 = b ∧ f x.1 = s)) (h : Hp B H0 H (osum b s :: sms f m vs xs :: L) w) : Hp B H0 H (sms f (m + 1) (updV vs m (none, b)) ys :: L) w := by
  have h1 := h.star
  obtain ⟨⟨hA, hC, _⟩, _⟩ := h1.objs (G.star (osum b s) (sms f m vs xs)) List.mem_cons_self
  refine h1.reAt .z (fun x hx => ?_) fun b' hb' => ?_
  · rcases hy x hx with h2 | ⟨h2, h3⟩
    · obtain ⟨⟨j, hj, e⟩, h4⟩ := hC x h2
      exact ⟨⟨j, by omega, by rw [e]; simp [updV, Nat.ne_of_lt hj]⟩, h4⟩
    · exact ⟨⟨m, by omega, by simp [updV, h2]⟩, by rw [h2, h3]; exact hA⟩
  · obtain ⟨j, hj, e⟩ := hb'
    by_cases hjm : j = m
    · left
      subst hjm
      show b' = b
      simpa [updV] using e
    · right
      exact ⟨j, by omega, by simpa [updV, hjm] using e⟩
theorem Hp.knwAdd (hy : ∀ x ∈ ys, x ∈ xs ∨ (x.2 = b ∧ f x.1 = s)) (h : Hp B H0 H (osum b s :: okn kb ys :: sms f m vs xs :: L) w) : Hp B H0 H (knwR f kb (m + 1) (updV vs m (none, b)) b s :: L) w := by
  have h1 := (h.front (.s (.s .z))).front (.s .z)
  have h2 := ((h1.smsAdd hy).front (.s .z)).knwShut
  have hA := (h.objs (osum b s) (by simp)).1
  exact h2.reAt .z ⟨(h2.objs (knw f kb (m + 1) (updV vs m (none, b))) List.mem_cons_self).1, ⟨m, by omega, by simp [updV]⟩, hA⟩ fun b hb => hb
theorem Hp.knwNew (hs : f p = s) (h : Hp B H0 H (osum b s :: okn kb (putM xs p b) :: sms f m vs xs :: L) w) : Hp B H0 H (knwR f kb (m + 1) (updV vs m (none, b)) b s :: L) w :=
  h.knwAdd fun x hx => by
    rcases List.mem_cons.1 hx with rfl | hx
    · exact .inr ⟨rfl, hs⟩
    · exact .inl (List.mem_filter.1 hx).1
theorem Hp.knwOne (h : Hp B H0 H (osum b s :: okn kb xs :: sms f m vs xs :: L) w) : Hp B H0 H (knwR f kb (m + 1) (updV vs m (none, b)) b s :: L) w :=
  h.knwAdd fun x hx => .inl hx
theorem Hp.knw0 (h : Hp B H0 H (okn kb [] :: L) w) : Hp B H0 H (knw f kb 0 vs :: L) w :=
  Hp.knwShut (xs := []) ((h.emp.reAt (A' := sms f 0 vs []) .z (fun x hx => by simp at hx) fun b hb => by obtain ⟨j, hj, _⟩ := hb; omega).front (.s .z))
theorem CJ.reH {c : Code} (g : ∀ w, Hp B H0 H L w → Hp B H0 H L' w) (h : CJ P c Q n B H0 us H L') : CJ P c Q n B H0 us H L := fun a w hF hH => h a w hF (g w hH)
theorem EJ.reH (g : ∀ w, Hp B H0 H L w → Hp B H0 H L' w) (h : EJ R n B H0 us H L') : EJ R n B H0 us H L := fun a w hF hH => h a w hF (g w hH)
theorem EJ.knwOpen (k : ∀ xs, EJ R n B H0 us H (okn kb xs :: sms f m vs xs :: L)) : EJ R n B H0 us H (knwR f kb m vs b s :: L) := fun a w hF hH => by
  obtain ⟨xs, h⟩ := hH.knwForget.knwOpen
  exact k xs a w hF h
theorem EJ.knwForget (k : EJ R n B H0 us H (knw f kb m vs :: L)) : EJ R n B H0 us H (knwR f kb m vs b s :: L) := fun a w hF hH => k a w hF hH.knwForget
theorem look_mem {k : Pw} {b : Nat} (h : look xs k = some b) : (k, b) ∈ xs := by
  unfold look at h
  obtain ⟨x, hx, rfl⟩ := Option.map_eq_some_iff.1 h
  have h1 := List.find?_some hx
  have h2 := List.mem_of_find?_eq_some hx
  have e : x.1 = k := by simpa using h1
  rw [← e]
  exact h2
end
def ImR (H : HP) (q : Option Addr) (n : Nat) (ss : Nat → Sm) : Prop := ∀ i, i < n → ∃ g, cellO H q i = some (.map (some g)) ∧ SumH H (.map (some g)) (ss i)
theorem ImR.le {H H' : HP} {q : Option Addr} {n : Nat} {ss : Nat → Sm} (h : ImR H q n ss) (hle : Le H H') : ImR H' q n ss := fun i hi => by
  obtain ⟨g, h1, h2⟩ := h i hi
  exact ⟨g, cellO_le hle h1, h2.le hle⟩
theorem ImR.sm {H : HP} {q : Option Addr} {n : Nat} {ss : Nat → Sm} (h : ImR H q n ss) {i : Nat} (hi : i < n) : q.isSome = true := by
  obtain ⟨g, h1, _⟩ := h i hi
  exact cellO_some h1
set_option maxRecDepth 10000 in
theorem number_c {B : World} {H0 H : HP} {L : List SA} {w : World}   (hH : Hp B H0 H L w) :
    Calls Try.prog 185 [].toArray w fun e w' => ∃ b, e = .returned (.map (some b)) ∧ Hp B H0 H (osum b oneS :: L) w' := by
  refine CJ.enter Try.func185 rfl 4 rfl rfl [] rfl hH ?_
  clear hH
  refine CJ.seq fun _ hK1 _ => ?_
  refine CJ.region ?_
  refine J.p (PR.assign rfl) rfl ?_
  refine J.nil ?_
  refine EJ.thenN (hK1 ?_)
  refine CJ.seq fun _ hK2 _ => ?_
  refine CJ.region ?_
  refine J.makeMap pwE (Value.int .i64) pwOk rfl fun bm1 => ?_
  refine J.p (PR.buildZ bz94) rfl ?_
  refine J.putOne pwK u107 rfl rfl rfl (pwOk_of (zP_pok (M := 0) (by omega)) (by omega)) At.z ?_
  refine J.p (PR.move rfl) rfl ?_
  refine J.p (PR.assign rfl) rfl ?_
  refine J.nil ?_
  refine EJ.thenN (hK2 ?_)
  refine CJ.ret ?_
  refine EJ.ret1 rfl (Res.tmp rfl) fun w hH => ?_
  replace hH := hH.sublist (.cons_cons _ (List.Sublist.refl _))
  exact ⟨_, rfl, hH⟩
end Go.Proofs.Ytpojpokldncglaa.G
namespace Go.Proofs.Ytpojpokldncglaa.G
open Go Go.RowKit
namespace Qg
theorem u107 : Try.prog.underlying 107 = some (TypeDesc.map 94 2) := by kernel_rfl
theorem u190 : Try.prog.underlying 190 = some (TypeDesc.slice 107) := by kernel_rfl
theorem u191 : Try.prog.underlying 191 = some (TypeDesc.map 198 107) := by kernel_rfl
theorem u193 : Try.prog.underlying 193 = some (TypeDesc.struct #[{ name := "from", type := 22, offset := 0, embedded := false, tag := "", pkgPath := "loop.example/g01219/impl", byteOffset := 0 }, { name := "to", type := 22, offset := 1, embedded := false, tag := "", pkgPath := "loop.example/g01219/impl", byteOffset := 24 }, { name := "images", type := 190, offset := 2, embedded := false, tag := "", pkgPath := "loop.example/g01219/impl", byteOffset := 48 }, { name := "known", type := 191, offset := 3, embedded := false, tag := "", pkgPath := "loop.example/g01219/impl", byteOffset := 72 }]) := by kernel_rfl
theorem u198 : Try.prog.underlying 198 = some (TypeDesc.array 2 3) := by kernel_rfl
theorem u22 : Try.prog.underlying 22 = some (TypeDesc.slice 2) := by kernel_rfl
theorem sz107 : Size Try.prog 107 1 := by unfold Size; kernel_rfl
theorem sz190 : Size Try.prog 190 1 := by unfold Size; kernel_rfl
theorem sz191 : Size Try.prog 191 1 := by unfold Size; kernel_rfl
theorem sz198 : Size Try.prog 198 2 := by unfold Size; kernel_rfl
theorem sz22 : Size Try.prog 22 1 := by unfold Size; kernel_rfl
theorem zv107 : ZeroV Try.prog 107 (.map none) := fun _ => by kernel_rfl
theorem ze198 : Zero Try.prog 198 [.int .i64 0, .int .i64 0] := by unfold Zero; kernel_rfl
theorem pl107 : Plain Try.prog 107 := ⟨_, u107, rfl⟩
theorem pl190 : Plain Try.prog 190 := ⟨_, u190, rfl⟩
theorem pl191 : Plain Try.prog 191 := ⟨_, u191, rfl⟩
theorem pl22 : Plain Try.prog 22 := ⟨_, u22, rfl⟩
theorem ag198 : Agg Try.prog 198 2 := ⟨_, u198, rfl, by kernel_rfl⟩
theorem fn145 : Fn Try.prog 145 := ⟨_, Try.func145, by kernel_rfl, rfl⟩
theorem fn185 : Fn Try.prog 185 := ⟨_, Try.func185, by kernel_rfl, rfl⟩
theorem fn186 : Fn Try.prog 186 := ⟨_, Try.func186, by kernel_rfl, rfl⟩
theorem foll0 : Try.prog.follows .mixedOrders = true := by kernel_rfl
end Qg
open Qg
theorem bld2 : ∀ (i x : Int) w, (Instr.build 198 #[(0, .int .i64 i), (1, .int .i64 x)]).run Try.prog w = .ok (.agg [Value.int .i64 i, Value.int .i64 x].toArray) w := fun _ _ _ => by kernel_rfl
set_option maxHeartbeats 4000000 in
set_option maxRecDepth 10000 in
theorem powX_c {B : World} {H0 H : HP} {L : List SA} {w : World} {bld kbld nld : Nat} {qldf qldt qldi : Option Addr} {cldf cldt cldi : Nat} {ldf ldt : List Int} {lds : Nat → Sm} {i : Nat} {x : Nat} {m : Nat} {vs : Vs} {xs : List (Pw × Nat)} {d : Int} (pld0 : CellAt H bld 0 (.slice qldf ldf.length cldf)) (pld1 : CellAt H bld 1 (.slice qldt ldt.length cldt)) (pld2 : CellAt H bld 2 (.slice qldi nld cldi)) (pld3 : CellAt H bld 3 (.map (some kbld))) (hldf : Ints H qldf ldf) (hldt : Ints H qldt ldt) (hldi : ImR H qldi nld lds) (hi : i < nld) (hi8 : i ≤ 8) (hx9 : x ≤ 1000000) (hd : Dg ldt) (hw : Ws ldt d (lds i)) (h0 : 0 ≤ d) (hde : (x : Int) * d ≤ 13) (hrec : ∀ (x1 : Nat) (y : Int), y = (x1 : Int) → x = x1 + 1 → ∀ (L : List SA) (w : World) (m : Nat) (vs : Vs), Hp B H0 H (knw (kF ldt lds) kbld m vs :: L) w → Calls Try.prog 186 [.pointer (some ⟨bld, 0, none⟩), .int .i64 (i : Int), .int .i64 y].toArray w fun r w' => ∃ b m' vs', r = .returned (.map (some b)) ∧ Hp B H0 H (knwR (kF ldt lds) kbld m' vs' b (pwS ldt (lds i) x1) :: L) w') (hH : Hp B H0 H (okn kbld xs :: sms (kF ldt lds) m vs xs :: L) w) :
    Calls Try.prog 186 [.pointer (some ⟨bld, 0, none⟩), .int .i64 (i : Int), .int .i64 (x : Int)].toArray w fun e w' => ∃ b m' vs', e = .returned (.map (some b)) ∧ Hp B H0 H (knwR (kF ldt lds) kbld m' vs' b (pwS ldt (lds i) x) :: L) w' := by
  refine CJ.enter Try.func186 rfl 52 rfl rfl [(0, .pointer (some ⟨bld, 0, none⟩)), (1, .int .i64 (i : Int)), (2, .int .i64 (x : Int))] rfl hH ?_
  clear hH
  obtain ⟨gi, hgi, hsi⟩ := hldi i hi
  have hk2 : k2Ok [(i : Int), (x : Int)] := ⟨rfl, fun j => by rcases j with _ | _ | j <;> simp <;> omega⟩
  refine CJ.seq fun _ hK1 _ => ?_
  refine CJ.region ?_
  refine J.p (PR.assign rfl) rfl ?_
  refine J.nil ?_
  refine EJ.thenN (hK1 ?_)
  refine CJ.seq fun _ hK2 _ => ?_
  refine CJ.seq fun _ hK3 _ => ?_
  refine CJ.region ?_
  refine J.p (PR.move rfl) rfl ?_
  refine J.p (PR.eql rfl rfl) rfl ?_
  refine J.nil ?_
  refine EJ.thenN (hK3 ?_)
  refine CJ.condD rfl (fun h12 => ?_) (fun h12 => ?_)
  ·
    refine CJ.seq fun _ hK4 _ => ?_
    refine CJ.region ?_
    refine J.call fn185 rfl rfl fun w hH => (number_c  hH).mono ?_
    rintro _ w ⟨bo13, rfl, hH⟩
    refine ⟨_, rfl, fun a hF => J.of hF hH ?_⟩
    refine J.p (PR.assign rfl) rfl ?_
    refine J.nil ?_
    refine EJ.thenN (hK4 ?_)
    refine CJ.ret ?_
    refine EJ.thenR ?_
    refine EJ.ret1 rfl (Res.tmp rfl) fun w hH => ?_
    replace hH := hH.sublist (.cons_cons _ (.cons_cons _ (.cons_cons _ (List.Sublist.refl _))))
    have ex : x = 0 := by omega
    subst ex
    exact ⟨_, _, _, rfl, hH.knwOne⟩
  ·
    refine CJ.skip ?_
    refine EJ.thenN (hK2 ?_)
    refine CJ.seq fun _ hK5 _ => ?_
    refine CJ.region ?_
    refine J.p (PR.move rfl) rfl ?_
    refine J.p (PR.move rfl) rfl ?_
    refine J.p (PR.build2 rfl rfl (fun w => bld2 _ _ w)) rfl ?_
    refine J.alloc ze198 rfl fun g7 => ?_
    refine J.storeAll rfl rfl (by first | exact bytesC_one _ | exact intsC_one _ | exact Term.c_one _ | simp [Value.oneCell']) (by simpa [*] using sz198) (by simp [*]) At.z ?_
    refine J.nil ?_
    refine EJ.thenN (hK5 ?_)
    refine CJ.seq fun _ hK6 _ => ?_
    refine CJ.seq fun _ hK7 _ => ?_
    refine CJ.regionD foll0 (by kernel_rfl) ?_
    refine JS.op (PR.move rfl) rfl ?_
    refine JS.op (PR.nilCheck rfl) rfl ?_
    refine JS.op (PR.fldA u193 rfl sz191 rfl) rfl ?_
    refine JS.op (PR.loadH (q := some ⟨bld, 0, none⟩) (k := 3) rfl pld3 pl191) rfl ?_
    refine JS.op (PR.loadAll rfl At.z (by simpa [*] using ag198)) rfl ?_
    refine JS.op (PR.lookO2 u191 k2K zv107 rfl (.s .z) rfl hk2) rfl ?_
    refine JS.op (PR.move rfl) rfl ?_
    refine JS.op (PR.extract rfl rfl) rfl ?_
    refine JS.op (PR.extract rfl rfl) rfl ?_
    refine JS.op (PR.assign rfl) rfl ?_
    refine JS.op (PR.assign rfl) rfl ?_
    refine JS.nil ?_
    refine EJ.thenN (hK7 ?_)
    refine CJ.seq fun _ hK8 _ => ?_
    refine CJ.region ?_
    refine J.p (PR.move rfl) rfl ?_
    refine J.nil ?_
    refine EJ.thenN (hK8 ?_)
    refine CJ.cond rfl (fun h26 => ?_) (fun h26 => ?_)
    ·
      refine CJ.seq fun _ hK9 _ => ?_
      refine CJ.region ?_
      refine J.p (PR.move rfl) rfl ?_
      refine J.p (PR.assign rfl) rfl ?_
      refine J.nil ?_
      refine EJ.thenN (hK9 ?_)
      refine CJ.ret ?_
      refine EJ.thenR ?_
      refine EJ.ret1 rfl (Res.tmp rfl) fun w hH => ?_
      replace hH := hH.sublist (.cons _ (.cons_cons _ (.cons_cons _ (List.Sublist.refl _))))
      obtain ⟨b, hb⟩ := Option.isSome_iff_exists.1 h26
      exact ⟨b, m, vs, by rw [hb]; rfl, Hp.knwGet (kF_at ldt lds i x) (look_mem hb) hH⟩
    ·
      obtain ⟨x1, hx1⟩ : ∃ x1, x = x1 + 1 := ⟨x - 1, by omega⟩
      have e1 : (x : Int) * d = (x1 : Int) * d + d := by rw [hx1, Int.natCast_add, Int.add_mul]; simp
      have hd1 : (x1 : Int) * d ≤ 13 := by omega
      have hp1 := hw.pw hd h0 x1 hd1
      refine CJ.reH (fun w hH => Hp.knwShut ((hH.front (.s (.s .z))).front (.s (.s .z)))) ?_
      refine CJ.skip ?_
      refine EJ.thenN (hK6 ?_)
      refine CJ.seq fun _ hK10 _ => ?_
      refine CJ.openR (Rs := [_, _]) 18 [[], [], [], [2], [0, 1, 2, 3], [], [5], [5, 6], [5, 6, 7], [], [9], [9, 10], [9, 10, 11], [], [9, 10, 11, 12, 13], [9, 10, 11, 12, 13, 14], [0, 1, 2, 3, 4, 5, 6, 7, 8, 9, 10, 11, 12, 13, 14, 15], [0, 1, 2, 3, 4, 5, 6, 7, 8, 9, 10, 11, 12, 13, 14, 15, 16]] [[], [], [], [], [], [], [], [], [], [], [], [], [], [], [], [], [4], []] [[], [], [], [], [18], [], [], [], [], [], [], [], [], [], [], [], [], []] rfl rfl (by kernel_rfl) ?_
      apply GJ.st0 1 rfl
      iterate 3 focus (intros; (conv => lhs; simp only [slotsZ, zlAt, vs0, resL, at2, eq_self, Nat.reduceEqDiff, reduceIte, Nat.reduceSub, Nat.reduceAdd, List.cons_append, List.nil_append]); all_goals rfl)
      ·
        intro gh X K zq zc zq2 zc2 zb zv hK
        refine J.p (PR.move rfl) rfl ?_
        refine J.nilK ?_
        exact hK zq zc zq2 zc2 zb zv
      ·
        intro gh gh' h
        rfl
      apply GJ.st0 2 rfl
      iterate 3 focus (intros; (conv => lhs; simp only [slotsZ, zlAt, vs0, resL, at2, eq_self, Nat.reduceEqDiff, reduceIte, Nat.reduceSub, Nat.reduceAdd, List.cons_append, List.nil_append]); all_goals rfl)
      ·
        intro gh X K zq zc zq2 zc2 zb zv hK
        refine J.p (PR.move rfl) rfl ?_
        refine J.nilK ?_
        exact hK zq zc zq2 zc2 zb zv
      ·
        intro gh gh' h
        rfl
      apply GJ.st0 3 rfl
      iterate 3 focus (intros; (conv => lhs; simp only [slotsZ, zlAt, vs0, resL, at2, eq_self, Nat.reduceEqDiff, reduceIte, Nat.reduceSub, Nat.reduceAdd, List.cons_append, List.nil_append]); all_goals rfl)
      ·
        intro gh X K zq zc zq2 zc2 zb zv hK
        refine J.p (PR.move rfl) rfl ?_
        refine J.nilK ?_
        exact hK zq zc zq2 zc2 zb zv
      ·
        intro gh gh' h
        rfl
      apply GJ.st0 4 rfl
      iterate 3 focus (intros; (conv => lhs; simp only [slotsZ, zlAt, vs0, resL, at2, eq_self, Nat.reduceEqDiff, reduceIte, Nat.reduceSub, Nat.reduceAdd, List.cons_append, List.nil_append]); all_goals rfl)
      ·
        intro gh X K zq zc zq2 zc2 zb zv hK
        refine J.p (PR.sub rfl rfl (by first | exact nw _ (by omega) | rfl)) rfl ?_
        refine J.nilK ?_
        exact hK zq zc zq2 zc2 zb zv
      ·
        intro gh gh' h
        rfl
      apply GJ.st1 5 rfl
      iterate 3 focus (intros; (conv => lhs; simp only [slotsZ, zlAt, vs0, resL, at2, eq_self, Nat.reduceEqDiff, reduceIte, Nat.reduceSub, Nat.reduceAdd, List.cons_append, List.nil_append]); all_goals rfl)
      ·
        intro gh X K zq zc zq2 zc2 zb zv hK
        refine J.call fn186 rfl rfl fun w hH => (hrec x1 _ (by omega) hx1 _ _ _ _ hH).mono ?_
        rintro _ w ⟨bo32, mo32, vo32, rfl, hH⟩
        refine ⟨_, rfl, fun a hF => J.of hF hH ?_⟩
        refine J.nilK ?_
        exact hK zq mo32 zq2 zc2 bo32 vo32
      ·
        intro gh gh' h
        refine ⟨?_, ?_⟩ <;> rfl
      apply GJ.st0 6 rfl
      iterate 3 focus (intros; (conv => lhs; simp only [slotsZ, zlAt, vs0, resL, at2, eq_self, Nat.reduceEqDiff, reduceIte, Nat.reduceSub, Nat.reduceAdd, List.cons_append, List.nil_append]); all_goals rfl)
      ·
        intro gh X K zq zc zq2 zc2 zb zv hK
        refine J.p (PR.move rfl) rfl ?_
        refine J.nilK ?_
        exact hK zq zc zq2 zc2 zb zv
      ·
        intro gh gh' h
        rfl
      apply GJ.st0 7 rfl
      iterate 3 focus (intros; (conv => lhs; simp only [slotsZ, zlAt, vs0, resL, at2, eq_self, Nat.reduceEqDiff, reduceIte, Nat.reduceSub, Nat.reduceAdd, List.cons_append, List.nil_append]); all_goals rfl)
      ·
        intro gh X K zq zc zq2 zc2 zb zv hK
        refine J.p (PR.nilCheck rfl) rfl ?_
        refine J.nilK ?_
        exact hK zq zc zq2 zc2 zb zv
      ·
        intro gh gh' h
        rfl
      apply GJ.st0 8 rfl
      iterate 3 focus (intros; (conv => lhs; simp only [slotsZ, zlAt, vs0, resL, at2, eq_self, Nat.reduceEqDiff, reduceIte, Nat.reduceSub, Nat.reduceAdd, List.cons_append, List.nil_append]); all_goals rfl)
      ·
        intro gh X K zq zc zq2 zc2 zb zv hK
        refine J.p (PR.fldA u193 rfl sz22 rfl) rfl ?_
        refine J.nilK ?_
        exact hK zq zc zq2 zc2 zb zv
      ·
        intro gh gh' h
        rfl
      apply GJ.st0 9 rfl
      iterate 3 focus (intros; (conv => lhs; simp only [slotsZ, zlAt, vs0, resL, at2, eq_self, Nat.reduceEqDiff, reduceIte, Nat.reduceSub, Nat.reduceAdd, List.cons_append, List.nil_append]); all_goals rfl)
      ·
        intro gh X K zq zc zq2 zc2 zb zv hK
        refine J.p (PR.loadH (q := some ⟨bld, 0, none⟩) (k := 1) rfl pld1 pl22) rfl ?_
        refine J.nilK ?_
        exact hK zq zc zq2 zc2 zb zv
      ·
        intro gh gh' h
        rfl
      apply GJ.st0 10 rfl
      iterate 3 focus (intros; (conv => lhs; simp only [slotsZ, zlAt, vs0, resL, at2, eq_self, Nat.reduceEqDiff, reduceIte, Nat.reduceSub, Nat.reduceAdd, List.cons_append, List.nil_append]); all_goals rfl)
      ·
        intro gh X K zq zc zq2 zc2 zb zv hK
        refine J.p (PR.move rfl) rfl ?_
        refine J.nilK ?_
        exact hK zq zc zq2 zc2 zb zv
      ·
        intro gh gh' h
        rfl
      apply GJ.st0 11 rfl
      iterate 3 focus (intros; (conv => lhs; simp only [slotsZ, zlAt, vs0, resL, at2, eq_self, Nat.reduceEqDiff, reduceIte, Nat.reduceSub, Nat.reduceAdd, List.cons_append, List.nil_append]); all_goals rfl)
      ·
        intro gh X K zq zc zq2 zc2 zb zv hK
        refine J.p (PR.nilCheck rfl) rfl ?_
        refine J.nilK ?_
        exact hK zq zc zq2 zc2 zb zv
      ·
        intro gh gh' h
        rfl
      apply GJ.st0 12 rfl
      iterate 3 focus (intros; (conv => lhs; simp only [slotsZ, zlAt, vs0, resL, at2, eq_self, Nat.reduceEqDiff, reduceIte, Nat.reduceSub, Nat.reduceAdd, List.cons_append, List.nil_append]); all_goals rfl)
      ·
        intro gh X K zq zc zq2 zc2 zb zv hK
        refine J.p (PR.fldA u193 rfl sz190 rfl) rfl ?_
        refine J.nilK ?_
        exact hK zq zc zq2 zc2 zb zv
      ·
        intro gh gh' h
        rfl
      apply GJ.st0 13 rfl
      iterate 3 focus (intros; (conv => lhs; simp only [slotsZ, zlAt, vs0, resL, at2, eq_self, Nat.reduceEqDiff, reduceIte, Nat.reduceSub, Nat.reduceAdd, List.cons_append, List.nil_append]); all_goals rfl)
      ·
        intro gh X K zq zc zq2 zc2 zb zv hK
        refine J.p (PR.loadH (q := some ⟨bld, 0, none⟩) (k := 2) rfl pld2 pl190) rfl ?_
        refine J.nilK ?_
        exact hK zq zc zq2 zc2 zb zv
      ·
        intro gh gh' h
        rfl
      apply GJ.st0 14 rfl
      iterate 3 focus (intros; (conv => lhs; simp only [slotsZ, zlAt, vs0, resL, at2, eq_self, Nat.reduceEqDiff, reduceIte, Nat.reduceSub, Nat.reduceAdd, List.cons_append, List.nil_append]); all_goals rfl)
      ·
        intro gh X K zq zc zq2 zc2 zb zv hK
        refine J.p (PR.move rfl) rfl ?_
        refine J.nilK ?_
        exact hK zq zc zq2 zc2 zb zv
      ·
        intro gh gh' h
        rfl
      apply GJ.st0 15 rfl
      iterate 3 focus (intros; (conv => lhs; simp only [slotsZ, zlAt, vs0, resL, at2, eq_self, Nat.reduceEqDiff, reduceIte, Nat.reduceSub, Nat.reduceAdd, List.cons_append, List.nil_append]); all_goals rfl)
      ·
        intro gh X K zq zc zq2 zc2 zb zv hK
        refine J.p (PR.idx1 (i' := i) u190 sz107 rfl rfl rfl hi hldi.sm) rfl ?_
        refine J.nilK ?_
        exact hK zq zc zq2 zc2 zb zv
      ·
        intro gh gh' h
        rfl
      apply GJ.st0 16 rfl
      iterate 3 focus (intros; (conv => lhs; simp only [slotsZ, zlAt, vs0, resL, at2, eq_self, Nat.reduceEqDiff, reduceIte, Nat.reduceSub, Nat.reduceAdd, List.cons_append, List.nil_append]); all_goals rfl)
      ·
        intro gh X K zq zc zq2 zc2 zb zv hK
        refine J.p (PR.loadH rfl hgi pl107) rfl ?_
        refine J.nilK ?_
        exact hK zq zc zq2 zc2 zb zv
      ·
        intro gh gh' h
        rfl
      apply GJ.st1 17 rfl
      iterate 3 focus (intros; (conv => lhs; simp only [slotsZ, zlAt, vs0, resL, at2, eq_self, Nat.reduceEqDiff, reduceIte, Nat.reduceSub, Nat.reduceAdd, List.cons_append, List.nil_append]); all_goals rfl)
      ·
        intro gh X K zq zc zq2 zc2 zb zv hK
        refine J.call fn145 rfl rfl fun w hH => hH.lend .z fun Hl1 hle1 hA1 hB1 hH => (times_c (knwR_H hA1) hp1.sok (hldt.le hle1) (hsi.le hle1) hw.sok hd.hn hd.hd (by omega) hH).mono ?_
        rintro _ w ⟨bo44, rfl, hH⟩
        replace hH := hB1 _ _ hH
        refine ⟨_, rfl, fun a hF => J.of hF hH ?_⟩
        refine EJ.front .z ?_
        refine EJ.front (.s .z) ?_
        refine J.nilK ?_
        exact hK zq zc zq2 zc2 bo44 zv
      ·
        intro gh gh' h
        refine ⟨?_, ?_⟩ <;> (first | simp only [h 4 rfl] | rfl)
      apply GJ.st0 18 rfl
      iterate 3 focus (intros; (conv => lhs; simp only [slotsZ, zlAt, vs0, resL, at2, eq_self, Nat.reduceEqDiff, reduceIte, Nat.reduceSub, Nat.reduceAdd, List.cons_append, List.nil_append]); all_goals rfl)
      ·
        intro gh X K zq zc zq2 zc2 zb zv hK
        refine J.p (PR.assign rfl) rfl ?_
        refine J.nilK ?_
        exact hK zq zc zq2 zc2 zb zv
      ·
        intro gh gh' h
        first | simp only [h 4 rfl, h 16 rfl] | rfl
      apply GJ.close [0, 1, 2, 3, 4, 5, 6, 7, 8, 9, 10, 11, 12, 13, 14, 15, 16, 17] [0, 1, 2, 3, 4, 5, 6, 7, 8, 9, 10, 11, 12, 13, 14, 15, 16, 17, 19] foll0 rfl rfl rfl (by rfl)
      iterate 2 focus (intros; (conv => lhs; simp only [slotsZ, zlAt, vs0, resL, at2, eq_self, Nat.reduceEqDiff, reduceIte, Nat.reduceSub, Nat.reduceAdd, List.cons_append, List.nil_append]); all_goals rfl)
      intro gh
      generalize (gh 4).b = bo32
      generalize (gh 4).c = mo32
      generalize (gh 4).vs = vo32
      generalize (gh 16).b = bo44
      clear gh
      refine EJ.front .z ?_
      refine EJ.knwOpen fun xs2 => ?_
      refine EJ.thenN (hK10 ?_)
      refine CJ.seq fun _ hK11 _ => ?_
      refine CJ.head [[], [0], [1], [2], [], []] (by kernel_rfl) ?_
      refine HJ.op (fun gh => PR.move rfl) ?_
      refine HJ.op (fun gh => PR.nilCheck rfl) ?_
      refine HJ.op (fun gh => PR.fldA u193 rfl sz191 rfl) ?_
      refine HJ.op (fun gh => PR.loadH (q := some ⟨bld, 0, none⟩) (k := 3) rfl pld3 pl191) ?_
      refine HJ.op (fun gh => PR.loadAll rfl (.s (.s (.s .z))) (by simpa [*] using ag198)) ?_
      refine HJ.op (fun gh => PR.move rfl) ?_
      refine HJ.close 6 1 foll0 (by kernel_rfl) rfl rfl fun gh => ?_
      refine J.conv (us' := (45, _) :: (46, _) :: (47, _) :: (48, _) :: (49, _) :: (50, _) :: _) (L' := _) rfl rfl ?_
      refine J.mapUpdate (v := bo44) u191 k2K rfl rfl rfl hk2 At.z ?_
      refine J.nil ?_
      refine EJ.still ?_
      refine JS.nil ?_
      refine EJ.thenN (hK11 ?_)
      refine CJ.seq fun _ hK12 _ => ?_
      refine CJ.region ?_
      refine J.p (PR.move rfl) rfl ?_
      refine J.p (PR.assign rfl) rfl ?_
      refine J.nil ?_
      refine EJ.thenN (hK12 ?_)
      refine CJ.ret ?_
      refine EJ.ret1 rfl (Res.tmp rfl) fun w hH => ?_
      replace hH := hH.sublist (.cons_cons _ (.cons_cons _ (.cons_cons _ (.cons _ (List.Sublist.refl _)))))
      have e9 : timesS ldt (pwS ldt (lds i) x1) (lds i) = pwS ldt (lds i) x := by rw [hx1]; rfl
      rw [e9] at hH
      exact ⟨_, _, _, rfl, Hp.knwNew (kF_at ldt lds i x) (hH.front (.s (.s .z)))⟩
theorem pow_c {B : World} {H0 H : HP} {bld kbld nld : Nat} {qldf qldt qldi : Option Addr} {cldf cldt cldi : Nat} {ldf ldt : List Int} {lds : Nat → Sm} {i : Nat} {d : Int} (x : Nat) (pld0 : CellAt H bld 0 (.slice qldf ldf.length cldf)) (pld1 : CellAt H bld 1 (.slice qldt ldt.length cldt)) (pld2 : CellAt H bld 2 (.slice qldi nld cldi)) (pld3 : CellAt H bld 3 (.map (some kbld))) (hldf : Ints H qldf ldf) (hldt : Ints H qldt ldt) (hldi : ImR H qldi nld lds) (hi : i < nld) (hi8 : i ≤ 8) (hx9 : x ≤ 1000000) (hd : Dg ldt) (hw : Ws ldt d (lds i)) (h0 : 0 ≤ d) (hde : (x : Int) * d ≤ 13) :
    ∀ (y : Int), y = (x : Int) → ∀ (L : List SA) (w : World) (m : Nat) (vs : Vs), Hp B H0 H (knw (kF ldt lds) kbld m vs :: L) w → Calls Try.prog 186 [.pointer (some ⟨bld, 0, none⟩), .int .i64 (i : Int), .int .i64 y].toArray w fun r w' => ∃ b m' vs', r = .returned (.map (some b)) ∧ Hp B H0 H (knwR (kF ldt lds) kbld m' vs' b (pwS ldt (lds i) x) :: L) w' := by
  induction x with
  | zero =>
    intro y hy L w m vs hH
    subst hy
    obtain ⟨xs, hH⟩ := hH.knwOpen
    exact powX_c pld0 pld1 pld2 pld3 hldf hldt hldi hi hi8 hx9 hd hw h0 hde (fun x1 y hy h => by omega) hH
  | succ x ih =>
    intro y hy L w m vs hH
    subst hy
    obtain ⟨xs, hH⟩ := hH.knwOpen
    have e1 : ((x + 1 : Nat) : Int) * d = (x : Int) * d + d := by rw [Int.natCast_add, Int.add_mul]; simp
    exact powX_c pld0 pld1 pld2 pld3 hldf hldt hldi hi hi8 hx9 hd hw h0 hde (fun x1 y hy h => by
      obtain rfl : x1 = x := by omega
      exact ih (by omega) (by omega) y hy) hH
end Go.Proofs.Ytpojpokldncglaa.G
