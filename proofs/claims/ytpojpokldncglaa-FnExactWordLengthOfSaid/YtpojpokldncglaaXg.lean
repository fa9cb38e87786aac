/- The walks from forms to sums. No condition. -/
import Derived.Test.YtpojpokldncglaaGMap
import Derived.Test.YtpojpokldncglaaProg
import Derived.Test.YtpojpokldncglaaWa
import Derived.Test.YtpojpokldncglaaWb
import Derived.Test.YtpojpokldncglaaWc
import Derived.Test.YtpojpokldncglaaWd
import Derived.Test.YtpojpokldncglaaWe
import Derived.Test.YtpojpokldncglaaWf
import Derived.Test.YtpojpokldncglaaWg
import Derived.Test.YtpojpokldncglaaWh
import Derived.Test.YtpojpokldncglaaWi
import Derived.Test.YtpojpokldncglaaWj
import Derived.Test.YtpojpokldncglaaWk
import Derived.Test.YtpojpokldncglaaWl
import Derived.Test.YtpojpokldncglaaWm
import Derived.Test.YtpojpokldncglaaWn
import Derived.Test.YtpojpokldncglaaWo
import Derived.Test.YtpojpokldncglaaWp
import Derived.Test.YtpojpokldncglaaXa
import Derived.Test.YtpojpokldncglaaXb
import Derived.DeepKeys4
import Derived.Test.YtpojpokldncglaaXc
import Derived.Test.YtpojpokldncglaaXd
import Derived.Test.YtpojpokldncglaaXe
import Derived.Test.YtpojpokldncglaaXf
set_option linter.unusedVariables false
set_option linter.unusedSimpArgs false
namespace Go.Proofs.Ytpojpokldncglaa.G
open Go Go.RowKit
namespace Xg
theorem u107 : Try.prog.underlying 107 = some (TypeDesc.map 94 2) := by kernel_rfl
theorem u2 : Try.prog.underlying 2 = some (TypeDesc.int .i64) := by kernel_rfl
theorem u27 : Try.prog.underlying 27 = some (TypeDesc.slice 88) := by kernel_rfl
theorem u29 : Try.prog.underlying 29 = some (TypeDesc.struct #[{ name := "Terms", type := 27, offset := 0, embedded := false, tag := "", pkgPath := "", byteOffset := 0 }]) := by kernel_rfl
theorem u86 : Try.prog.underlying 86 = some (TypeDesc.array 8 5) := by kernel_rfl
theorem u88 : Try.prog.underlying 88 = some (TypeDesc.struct #[{ name := "Monomial", type := 86, offset := 0, embedded := false, tag := "", pkgPath := "", byteOffset := 0 }, { name := "Factor", type := 2, offset := 8, embedded := false, tag := "", pkgPath := "", byteOffset := 8 }]) := by kernel_rfl
theorem sz2 : Size Try.prog 2 1 := by unfold Size; kernel_rfl
theorem sz27 : Size Try.prog 27 1 := by unfold Size; kernel_rfl
theorem sz86 : Size Try.prog 86 8 := by unfold Size; kernel_rfl
theorem sz88 : Size Try.prog 88 9 := by unfold Size; kernel_rfl
theorem ze88 : Zero Try.prog 88 [.int .u8 0, .int .u8 0, .int .u8 0, .int .u8 0, .int .u8 0, .int .u8 0, .int .u8 0, .int .u8 0, .int .i64 0] := by unfold Zero; kernel_rfl
theorem pl2 : Plain Try.prog 2 := ⟨_, u2, rfl⟩
theorem pl27 : Plain Try.prog 27 := ⟨_, u27, rfl⟩
theorem ag86 : Agg Try.prog 86 8 := ⟨_, u86, rfl, by kernel_rfl⟩
theorem ag88 : Agg Try.prog 88 9 := ⟨_, u88, rfl, by kernel_rfl⟩
theorem fn134 : Fn Try.prog 134 := ⟨_, Try.func134, by kernel_rfl, rfl⟩
theorem foll0 : Try.prog.follows .mixedOrders = true := by kernel_rfl
end Xg
open Xg

theorem Mono.pok {m : List Int} (h : Mono m) : Pok 255 m := ⟨h.len, h.bd⟩
def toS (ts : List Term) : Sm := ts.map fun t => (t.mono, t.fac)
theorem toS_take {ts : List Term} {k : Nat} (hk : k < ts.length) : toS (ts.take (k + 1)) = toS (ts.take k) ++ [((tm ts k).mono, (tm ts k).fac)] := by
  rw [take_tm hk]
  simp [toS]
theorem toS_mem {ts : List Term} {x : Pw × Int} (h : x ∈ toS ts) : ∃ t ∈ ts, x = (t.mono, t.fac) := by
  obtain ⟨t, ht, rfl⟩ := List.mem_map.1 h
  exact ⟨t, ht, rfl⟩
theorem toS_put {ts : List Term} {k : Nat} {M : Int} (h : Sok M (toS ts)) (hk : k < ts.length) : (putM (toS (ts.take k)) (tm ts k).mono (tm ts k).fac).Perm (toS (ts.take (k + 1))) := by
  rw [toS_take hk]
  have hn := h.nodup
  have e0 : toS ts = toS (ts.take k) ++ toS (ts.drop k) := by
    rw [toS, toS, toS, ← List.map_append, List.take_append_drop]
  have hd : ts.drop k = tm ts k :: ts.drop (k + 1) := by
    rw [List.drop_eq_getElem_cons hk]
    simp [tm, List.getD_eq_getElem?_getD, List.getElem?_eq_getElem hk]
  have hne : ∀ x ∈ toS (ts.take k), x.1 ≠ (tm ts k).mono := fun x hx e => by
    rw [e0, hd, List.map_append, List.nodup_append] at hn
    refine hn.2.2 x.1 (List.mem_map.2 ⟨x, hx, rfl⟩) (tm ts k).mono ?_ e
    simp [toS]
  unfold putM
  rw [filt_ne hne]
  exact (List.perm_append_singleton _ _).symm

set_option maxRecDepth 10000 in
theorem sumOf_c {B : World} {H0 H : HP} {L : List SA} {w : World} {qts : Option Addr} {cts : Nat} {ts : List Term} {Mf : Int} (hts : Terms H qts ts) (hk : Sok Mf (toS ts)) (hl : ts.length ≤ 9223372036854775807) (hH : Hp B H0 H L w) :
    Calls Try.prog 96 [.agg [.slice qts ts.length cts].toArray].toArray w fun e w' => ∃ b, e = .returned (.map (some b)) ∧ Hp B H0 H (osum b (toS ts) :: L) w' := by
  refine CJ.enter Try.func96 rfl 22 rfl rfl [(0, .agg [.slice qts ts.length cts].toArray)] rfl hH ?_
  clear hH
  refine CJ.seq fun _ hK1 _ => ?_
  refine CJ.region ?_
  refine J.box rfl rfl rfl fun g1 => ?_
  refine J.p (PR.assign rfl) rfl ?_
  refine J.nil ?_
  refine EJ.thenN (hK1 ?_)
  refine CJ.seq fun _ hK2 _ => ?_
  refine CJ.region ?_
  refine J.makeMap pwE (Value.int .i64) pwOk rfl fun bm6 => ?_
  refine J.p (PR.assign rfl) rfl ?_
  refine J.nil ?_
  refine EJ.thenN (hK2 ?_)
  refine CJ.seq fun _ hK3 _ => ?_
  refine CJ.seq fun _ hK4 _ => ?_
  refine CJ.region ?_
  refine J.p (PR.fldA u29 rfl sz27 rfl) rfl ?_
  refine J.p (PR.load rfl (.s .z) rfl pl27) rfl ?_
  refine J.p (PR.lenSlice u27 rfl rfl) rfl ?_
  refine J.p (PR.move rfl) rfl ?_
  refine J.nil ?_
  refine EJ.thenN (hK4 ?_)
  refine CJ.block ?_
  refine CJ.loopU (σ := Nat) (fun (k : Nat) => [(10, .int .i64 (k : Int))]) (fun (k : Nat) => H) (fun (k : Nat) => osum bm6 (toS (ts.take k)) :: obj g1 (.cells [.slice qts ts.length cts].toArray 29 (0, 0)) :: L) (fun (k : Nat) => k ≤ ts.length) (fun (k : Nat) => ts.length - k) 0 (by omega) ⟨rfl, trivial⟩ rfl rfl ?_
  rintro k hI _ hAg0
  refine CJ.seq fun _ hK5 _ => ?_
  refine CJ.region ?_
  refine J.p (PR.lss rfl rfl) rfl ?_
  refine J.nil ?_
  refine EJ.thenN (hK5 ?_)
  refine CJ.seq fun _ hK6 _ => ?_
  refine CJ.condD rfl (fun hc11 => ?_) (fun hc11 => ?_)
  ·
    refine CJ.skip ?_
    refine EJ.thenN (hK6 ?_)
    refine CJ.seq fun _ hK7 _ => ?_
    refine CJ.block ?_
    refine CJ.seq fun _ hK8 _ => ?_
    refine CJ.region ?_
    refine J.p (PR.idx u27 sz88 rfl rfl rfl (by omega) hts.sm) rfl ?_
    refine J.p (PR.loadHagg rfl (hts.cell _ (by omega)) (hts.sm (i := k) (by omega)) (by rw [Term.c_length (hts.wf _ (by omega))]; exact ag88)) rfl ?_
    refine J.alloc (cs := (default : Term).c) ze88 rfl fun g5 => ?_
    refine J.stTerm rfl rfl sz88 zero_wf (hts.wf k (by omega)) At.z ?_
    refine J.nil ?_
    refine EJ.thenN (hK8 ?_)
    refine CJ.head [[], [], [1], [2], [], [4]] (by kernel_rfl) ?_
    refine HJ.op (fun gh => PR.move rfl) ?_
    refine HJ.op (fun gh => PR.fldA u88 rfl sz86 rfl) ?_
    refine HJ.op (fun gh => PR.ldMono rfl At.z (hts.wf k (by omega)) ag86) ?_
    refine HJ.call fn134 (fun gh => rfl) (fun w X hH => powerOf_c (hts.wf k (by omega)).mono hH) ?_
    refine HJ.op (fun gh => PR.fldA u88 rfl sz2 rfl) ?_
    refine HJ.op (fun gh => PR.ldFac rfl At.z (hts.wf k (by omega)) pl2) ?_
    refine HJ.close 6 1 foll0 (by kernel_rfl) rfl rfl fun gh => ?_
    refine J.conv (us' := (14, _) :: (15, _) :: (16, _) :: (17, _) :: (18, _) :: (19, _) :: _) (L' := _) rfl rfl ?_
    refine J.putP pwK u107 rfl rfl rfl (pwOk_of (Mono.pok (hts.wf k (by omega)).mono) (by decide)) (toS_put hk (by omega)) (.s .z) ?_
    refine J.nil ?_
    refine EJ.still ?_
    refine JS.nil ?_
    refine EJ.inN ?_
    refine EJ.thenN (hK7 ?_)
    refine CJ.region ?_
    refine J.p (PR.add rfl rfl (by first | exact nw _ (by omega) | rfl)) rfl ?_
    refine J.p (PR.move rfl) rfl ?_
    refine J.nil ?_
    refine EJ.thenN ?_
    refine EJ.drop .z ?_
    exact hAg0 (k + 1) (by omega) (by omega) 13 rfl rfl ⟨rfl, trivial⟩ rfl rfl
  ·
    refine CJ.exit ?_
    refine EJ.thenE ?_
    refine EJ.thenE ?_
    refine EJ.inE ?_
    refine EJ.thenN (hK3 ?_)
    refine CJ.seq fun _ hK9 _ => ?_
    refine CJ.region ?_
    refine J.p (PR.move rfl) rfl ?_
    refine J.p (PR.assign rfl) rfl ?_
    refine J.nil ?_
    refine EJ.thenN (hK9 ?_)
    refine CJ.ret ?_
    refine EJ.ret1 rfl (Res.tmp rfl) fun w hH => ?_
    replace hH := hH.sublist (.cons_cons _ (.cons _ (List.Sublist.refl _)))
    obtain rfl : k = ts.length := by omega
    rw [List.take_length] at hH
    exact ⟨_, rfl, hH⟩
end Go.Proofs.Ytpojpokldncglaa.G
