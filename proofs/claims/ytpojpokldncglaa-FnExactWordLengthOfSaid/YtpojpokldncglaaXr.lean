/- The laws' arguments: algebras counted and copied. No condition. -/
import Derived.Test.YtpojpokldncglaaGMap
import Derived.Test.YtpojpokldncglaaProg
import Derived.Test.YtpojpokldncglaaWa
import Derived.Test.YtpojpokldncglaaWb
import Derived.Test.YtpojpokldncglaaWc
import Derived.Test.YtpojpokldncglaaWd
import Derived.Test.YtpojpokldncglaaWe
import Derived.Test.YtpojpokldncglaaWf
import Derived.Test.YtpojpokldncglaaWg
import Derived.Test.YtpojpokldncglaaWh
import Derived.Test.YtpojpokldncglaaWi
import Derived.Test.YtpojpokldncglaaWj
import Derived.Test.YtpojpokldncglaaWk
import Derived.Test.YtpojpokldncglaaWl
import Derived.Test.YtpojpokldncglaaWm
import Derived.Test.YtpojpokldncglaaWn
import Derived.Test.YtpojpokldncglaaWo
import Derived.Test.YtpojpokldncglaaWp
import Derived.Test.YtpojpokldncglaaXa
import Derived.Test.YtpojpokldncglaaXb
import Derived.DeepKeys4
import Derived.Test.YtpojpokldncglaaXc
import Derived.Test.YtpojpokldncglaaXd
import Derived.Test.YtpojpokldncglaaXe
import Derived.Test.YtpojpokldncglaaXf
import Derived.Test.YtpojpokldncglaaXg
import Derived.Test.YtpojpokldncglaaXh
import Derived.Test.YtpojpokldncglaaXi
import Derived.Test.YtpojpokldncglaaXj
import Derived.Test.YtpojpokldncglaaXk
import Derived.Test.YtpojpokldncglaaXl
import Derived.Test.YtpojpokldncglaaXm
import Derived.Test.YtpojpokldncglaaXn
import Derived.Test.YtpojpokldncglaaXo
import Derived.Test.YtpojpokldncglaaXp
import Derived.Test.YtpojpokldncglaaXq
set_option linter.unusedVariables false
set_option linter.unusedSimpArgs false
namespace Go.Proofs.Ytpojpokldncglaa.G
open Go Go.RowKit
namespace Xr
theorem u22 : Try.prog.underlying 22 = some (TypeDesc.slice 2) := by kernel_rfl
theorem u25 : Try.prog.underlying 25 = some (TypeDesc.struct #[{ name := "Terms", type := 23, offset := 0, embedded := false, tag := "", pkgPath := "", byteOffset := 0 }]) := by kernel_rfl
theorem u39 : Try.prog.underlying 39 = some (TypeDesc.slice 29) := by kernel_rfl
theorem u41 : Try.prog.underlying 41 = some (TypeDesc.struct #[{ name := "Degrees", type := 22, offset := 0, embedded := false, tag := "", pkgPath := "", byteOffset := 0 }, { name := "Images", type := 39, offset := 1, embedded := false, tag := "", pkgPath := "", byteOffset := 24 }]) := by kernel_rfl
theorem u47 : Try.prog.underlying 47 = some (TypeDesc.slice 25) := by kernel_rfl
theorem u49 : Try.prog.underlying 49 = some (TypeDesc.struct #[{ name := "Degrees", type := 22, offset := 0, embedded := false, tag := "", pkgPath := "", byteOffset := 0 }, { name := "Images", type := 47, offset := 1, embedded := false, tag := "", pkgPath := "", byteOffset := 24 }]) := by kernel_rfl
theorem sz22 : Size Try.prog 22 1 := by unfold Size; kernel_rfl
theorem sz25 : Size Try.prog 25 1 := by unfold Size; kernel_rfl
theorem sz29 : Size Try.prog 29 1 := by unfold Size; kernel_rfl
theorem sz39 : Size Try.prog 39 1 := by unfold Size; kernel_rfl
theorem sz41 : Size Try.prog 41 2 := by unfold Size; kernel_rfl
theorem sz47 : Size Try.prog 47 1 := by unfold Size; kernel_rfl
theorem by29 : Bytes Try.prog 29 24 := by unfold Bytes; kernel_rfl
theorem ze29 : Zero Try.prog 29 [.slice none 0 0] := by unfold Zero; kernel_rfl
theorem ze41 : Zero Try.prog 41 [.slice none 0 0, .slice none 0 0] := by unfold Zero; kernel_rfl
theorem pl22 : Plain Try.prog 22 := ⟨_, u22, rfl⟩
theorem pl47 : Plain Try.prog 47 := ⟨_, u47, rfl⟩
theorem ag25 : Agg Try.prog 25 1 := ⟨_, u25, rfl, by kernel_rfl⟩
theorem ag41 : Agg Try.prog 41 2 := ⟨_, u41, rfl, by kernel_rfl⟩
theorem fn18 : Fn Try.prog 18 := ⟨_, Try.func18, by kernel_rfl, rfl⟩
theorem fn20 : Fn Try.prog 20 := ⟨_, Try.func20, by kernel_rfl, rfl⟩
theorem fn21 : Fn Try.prog 21 := ⟨_, Try.func21, by kernel_rfl, rfl⟩
theorem fn64 : Fn Try.prog 64 := ⟨_, Try.func64, by kernel_rfl, rfl⟩
theorem fn66 : Fn Try.prog 66 := ⟨_, Try.func66, by kernel_rfl, rfl⟩
theorem fn88 : Fn Try.prog 88 := ⟨_, Try.func88, by kernel_rfl, rfl⟩
theorem fn89 : Fn Try.prog 89 := ⟨_, Try.func89, by kernel_rfl, rfl⟩
end Xr
open Xr

def szv (x : Int) : Int := if x < 0 then -1 else x
def updV (vs : Vs) (k : Nat) (x : Option Addr × Nat) : Vs := fun j => if j = k then x else vs j
theorem ownTs_congr {T : TypeId} : ∀ {gs : List (List Term)} {vs vs' : Vs}, (∀ j, j < gs.length → vs j = vs' j) → ownTs T vs gs = ownTs T vs' gs
  | [], _, _, _ => rfl
  | g :: gs, vs, vs', h => by
    have h0 := h 0 (by simp)
    have ih := ownTs_congr (T := T) (gs := gs) (vs := vs.tl) (vs' := vs'.tl) fun j hj => h (j + 1) (by simpa using hj)
    simp only [ownTs, h0, ih]
theorem slicesC_congr : ∀ {gs : List (List Term)} {vs vs' : Vs}, (∀ j, j < gs.length → vs j = vs' j) → slicesC vs gs = slicesC vs' gs
  | [], _, _, _ => rfl
  | g :: gs, vs, vs', h => by
    have h0 := h 0 (by simp)
    have ih := slicesC_congr (gs := gs) (vs := vs.tl) (vs' := vs'.tl) fun j hj => h (j + 1) (by simpa using hj)
    simp only [slicesC, h0, ih]
theorem slicesC_app : ∀ (vs : Vs) (gs : List (List Term)) (f : List Term), slicesC vs (gs ++ [f]) = slicesC vs gs ++ [.slice (vs gs.length).1 f.length (vs gs.length).2]
  | vs, [], f => rfl
  | vs, g :: gs, f => by
    simp only [List.cons_append, slicesC]
    rw [slicesC_app vs.tl gs f]
    rfl
theorem take_fm {fs : List (List Term)} {k : Nat} (hk : k < fs.length) : fs.take (k + 1) = fs.take k ++ [fm fs k] := by
  rw [List.take_succ_eq_append_getElem hk, fm_eq hk]
def fillF (vs : Vs) (fs : List (List Term)) (k : Nat) : List Value := slicesC vs (fs.take k) ++ List.replicate (fs.length - k) (.slice none 0 0)
@[simp] theorem fillF_len {vs : Vs} {fs : List (List Term)} {k : Nat} (hk : k ≤ fs.length) : (fillF vs fs k).length = fs.length := by simp [fillF]; omega
theorem slicesC_upd {vs : Vs} {fs : List (List Term)} {k : Nat} (hk : k < fs.length) (x : Option Addr × Nat) : slicesC (updV vs k x) (fs.take (k + 1)) = slicesC vs (fs.take k) ++ [.slice x.1 (fm fs k).length x.2] := by
  have hl : (fs.take k).length = k := List.length_take_of_le (by omega)
  rw [take_fm hk, slicesC_app, hl, slicesC_congr (vs' := vs) fun j hj => by unfold updV; rw [if_neg (by omega)]]
  simp [updV]
theorem fillF_step {vs : Vs} {fs : List (List Term)} {k : Nat} (hk : k < fs.length) (q : Option Addr) (c : Nat) : (fillF vs fs k).take k ++ [.slice q (fm fs k).length c] ++ (fillF vs fs k).drop (k + 1) = fillF (updV vs k (q, c)) fs (k + 1) := by
  have hl : (slicesC vs (fs.take k)).length = k := by simp; omega
  unfold fillF
  rw [slicesC_upd hk, List.take_append_of_le_length (by omega), List.take_of_length_le (by omega), List.drop_append, List.drop_of_length_le (by omega), List.nil_append, hl, List.drop_replicate]
  congr 2
  omega
theorem fillF_end (vs : Vs) (fs : List (List Term)) : fillF vs fs fs.length = slicesC vs fs := by simp [fillF]
theorem flat1 (z : Value) : ∀ m, (List.replicate m [z]).flatten = List.replicate m z
  | 0 => rfl
  | m + 1 => by rw [List.replicate_succ, List.replicate_succ, List.flatten_cons, flat1 z m]; rfl
section
variable {P : Program} {ops : Array Oper} {Q : Exit → Act → World → Prop} {n : Nat} {B : World} {H0 H : HP} {rest : List Oper} {us : List (Nat × Value)} {L : List SA} {t : TypeId} {p : String} {af : Array Edge} {d : Nat} {x y : Operand} {R : Act → World → Prop}
theorem J.makeSl (T : TypeId) {ty e : TypeId} {k k' : IntKind} {i j : Int} {m : Nat} (hu : P.underlying ty = some (.slice e)) (hz : Zero P e [.slice none 0 0]) (hs : Size P e 1) (hb : Bytes P e 24)
    (hx : opv us x = some (.int k i)) (hy : opv us y = some (.int k' j)) (hi : i = (m : Int)) (hj : j = (m : Int)) (hl : m ≤ 1048576) (hd : Nat.blt d n = true)
    (hk : ∀ g, J P ops Q n B H0 rest ((d, .slice (some ⟨g, 0, none⟩) m m) :: us) H (obj g (.cells (List.replicate m (.slice none 0 0)).toArray e (0, 0)) :: ownTs T nilVs [] :: L)) :
    J P ops Q n B H0 (⟨some d, .makeSlice ty x y, t, p, af, none⟩ :: rest) us H L := by
  refine J.make hu hz hs hb hx hy hi hj (Nat.le_refl _) (by omega) (by omega) hd fun g => ?_
  rw [flat1]
  exact fun a w hF hH => hk g a w hF (hH.emp.front (.s .z))
theorem EJ.tsSnoc {T : TypeId} {q : Option Addr} {c k : Nat} {fs : List (List Term)} {vs : Vs} (hk : k < fs.length) (h : EJ R n B H0 us H (ownTs T (updV vs k (q, c)) (fs.take (k + 1)) :: L)) : EJ R n B H0 us H (own T 9 q (fm fs k).length c (tsC (fm fs k)) :: ownTs T vs (fs.take k) :: L) := fun a w hF hH => by
  have hl : (fs.take k).length = k := List.length_take_of_le (by omega)
  rw [take_fm hk] at h
  refine h a w hF (Hp.fsOut ?_)
  rw [hl, show updV vs k (q, c) k = (q, c) by simp [updV], ownTs_congr (vs' := vs) fun j hj => by unfold updV; rw [if_neg (by omega)]]
  exact hH
end
theorem tot_pre {fs : List (List Term)} {i : Nat} (hi : i ≤ fs.length) : tot (fs.take i) ≤ tot fs := by
  conv => rhs; rw [← List.take_append_drop i fs, tot_app]
  omega
theorem tot_fm {fs : List (List Term)} {i : Nat} (hi : i < fs.length) : (fm fs i).length ≤ tot fs := by
  have h1 := tot_succ hi
  have h2 := tot_pre (fs := fs) (i := i + 1) hi
  omega

set_option maxRecDepth 10000 in
theorem toFormS_c {B : World} {H0 H : HP} {L : List SA} {w : World} {qfs : Option Addr} {cfs : Nat} {fs : List (List Term)}  (hfs : Forms H qfs fs) (hn : fs.length ≤ 1048576) (hl : ∀ i, i < fs.length → (fm fs i).length ≤ 1048576) (hH : Hp B H0 H L w) :
    Calls Try.prog 66 [.slice qfs fs.length cfs].toArray w fun e w' => ∃ q c vs, e = .returned (.slice q fs.length c) ∧ Hp B H0 H (ownFs 29 88 q c vs fs :: L) w' := by
  refine CJ.enter Try.func66 rfl 23 rfl rfl [(0, .slice qfs fs.length cfs)] rfl hH ?_
  clear hH
  refine CJ.seq fun _ hK1 _ => ?_
  refine CJ.region ?_
  refine J.p (PR.assign rfl) rfl ?_
  refine J.nil ?_
  refine EJ.thenN (hK1 ?_)
  refine CJ.seq fun _ hK2 _ => ?_
  refine CJ.region ?_
  refine J.p (PR.move rfl) rfl ?_
  refine J.p (PR.lenSlice u47 rfl rfl) rfl ?_
  refine J.makeSl 88 (m := fs.length) u39 ze29 sz29 by29 rfl rfl rfl rfl (by omega) rfl fun g7 => ?_
  refine J.p (PR.assign rfl) rfl ?_
  refine J.nil ?_
  refine EJ.thenN (hK2 ?_)
  refine CJ.seq fun _ hK3 _ => ?_
  refine CJ.seq fun _ hK4 _ => ?_
  refine CJ.region ?_
  refine J.p (PR.assign rfl) rfl ?_
  refine J.nil ?_
  refine EJ.thenN (hK4 ?_)
  refine CJ.block ?_
  refine CJ.loopU (σ := Vs × Nat) (fun ⟨vs, k⟩ => [(4, .int .i64 (k : Int))]) (fun ⟨vs, k⟩ => H) (fun ⟨vs, k⟩ => obj g7 (.cells (fillF vs fs k).toArray 29 (0, 0)) :: ownTs 88 vs (fs.take k) :: L) (fun ⟨vs, k⟩ => k ≤ fs.length) (fun ⟨vs, k⟩ => fs.length - k) (nilVs, 0) (by show 0 ≤ fs.length; omega) ⟨rfl, trivial⟩ rfl (by simp [fillF, slicesC]) ?_
  rintro ⟨vs, k⟩ hI _ hAg0
  have hk := hI
  refine CJ.seq fun _ hK5 _ => ?_
  refine CJ.seq fun _ hK6 _ => ?_
  refine CJ.region ?_
  refine J.p (PR.move rfl) rfl ?_
  refine J.p (PR.move rfl) rfl ?_
  refine J.p (PR.lenSlice u47 rfl rfl) rfl ?_
  refine J.p (PR.lss rfl rfl) rfl ?_
  refine J.nil ?_
  refine EJ.thenN (hK6 ?_)
  refine CJ.condD rfl (fun h11 => ?_) (fun h11 => ?_)
  ·
    have hlk := hl k (by omega)
    refine CJ.skip ?_
    refine EJ.thenN (hK5 ?_)
    refine CJ.seq fun _ hK7 _ => ?_
    refine CJ.block ?_
    refine CJ.region ?_
    refine J.p (PR.move rfl) rfl ?_
    refine J.p (PR.move rfl) rfl ?_
    refine J.p (PR.move rfl) rfl ?_
    refine J.p (PR.move rfl) rfl ?_
    refine J.p (PR.idx1 u47 sz25 rfl rfl rfl (by omega) hfs.sm) rfl ?_
    obtain ⟨qe19, ce19, he19, le19, Fe19⟩ := hfs k (by omega)
    refine J.p (PR.loadHagg (cs := [_]) rfl (one_cell he19) (hfs.sm (i := k) (by omega)) ag25) rfl ?_
    refine J.call fn21 rfl rfl fun w hH => (toForm_c Fe19 (by omega) hH).mono ?_
    rintro _ w ⟨qo20, co20, rfl, hH⟩
    refine ⟨_, rfl, fun a hF => J.of hF hH ?_⟩
    refine J.p (PR.idxO1 u39 sz29 rfl rfl rfl (by omega)) rfl ?_
    refine J.stores (vs := [.slice qo20 (fm fs k).length co20]) rfl rfl rfl (by simp [Value.oneCell']) sz29 (by rw [fillF_len (by omega)]; simp; omega) (.s .z) ?_
    refine J.nil ?_
    refine EJ.inN ?_
    refine EJ.thenN (hK7 ?_)
    refine CJ.region ?_
    refine J.p (PR.move rfl) rfl ?_
    refine J.p (PR.add rfl rfl (by first | exact nw _ (by omega) | rfl)) rfl ?_
    refine J.p (PR.assign rfl) rfl ?_
    refine J.nil ?_
    refine EJ.thenN ?_
    refine EJ.front (.s .z) ?_
    refine EJ.front (.s (.s .z)) ?_
    refine EJ.front (.s (.s .z)) ?_
    refine EJ.tsSnoc (by omega) ?_
    refine EJ.front .z ?_
    refine EJ.front (.s .z) ?_
    exact hAg0 (updV vs k (qo20, co20), k + 1) (by show k + 1 ≤ fs.length; omega) (by show fs.length - (k + 1) < fs.length - k; omega) 16 rfl rfl ⟨rfl, trivial⟩ rfl (by dsimp only; rw [← fillF_step (by omega)]; rfl)
  ·
    refine CJ.exit ?_
    refine EJ.thenE ?_
    refine EJ.thenE ?_
    refine EJ.inE ?_
    refine EJ.thenN (hK3 ?_)
    refine CJ.seq fun _ hK8 _ => ?_
    refine CJ.region ?_
    refine J.p (PR.move rfl) rfl ?_
    refine J.p (PR.assign rfl) rfl ?_
    refine J.nil ?_
    refine EJ.thenN (hK8 ?_)
    refine CJ.ret ?_
    refine EJ.ret1 rfl (Res.tmp rfl) fun w hH => ?_
    replace hH := hH.sublist (.cons_cons _ (.cons_cons _ (List.Sublist.refl _)))
    obtain rfl : k = fs.length := by omega
    rw [fillF_end, List.take_length] at hH
    exact ⟨_, _, _, rfl, (own_full _ 1 hH (by simp) (by simp only [maxLen]; omega)).star⟩
set_option maxRecDepth 10000 in
theorem szFormS_c {B : World} {H0 H : HP} {L : List SA} {w : World} {qfs : Option Addr} {cfs : Nat} {fs : List (List Term)} {left : Int}  (hfs : Forms H qfs fs) (hn : 0 ≤ left ∧ left ≤ 1000000000 ∧ fs.length ≤ 9223372036854775807) (hl : ∀ i, i < fs.length → (fm fs i).length ≤ 9223372036854775807) (hH : Hp B H0 H L w) :
    Calls Try.prog 64 [.slice qfs fs.length cfs, .int .i64 left].toArray w fun e w' => e = .returned (.int .i64 (szv (left - fs.length - tot fs))) ∧ Hp B H0 H L w' := by
  refine CJ.enter Try.func64 rfl 27 rfl rfl [(0, .slice qfs fs.length cfs), (1, .int .i64 left)] rfl hH ?_
  clear hH
  refine CJ.seq fun _ hK1 _ => ?_
  refine CJ.region ?_
  refine J.p (PR.assign rfl) rfl ?_
  refine J.nil ?_
  refine EJ.thenN (hK1 ?_)
  refine CJ.seq fun _ hK2 _ => ?_
  refine CJ.region ?_
  refine J.p (PR.move rfl) rfl ?_
  refine J.p (PR.move rfl) rfl ?_
  refine J.p (PR.lenSlice u47 rfl rfl) rfl ?_
  refine J.p (PR.sub rfl rfl (by first | exact nw _ (by omega) | rfl)) rfl ?_
  refine J.p (PR.assign rfl) rfl ?_
  refine J.nil ?_
  refine EJ.thenN (hK2 ?_)
  refine CJ.seq fun _ hK3 _ => ?_
  refine CJ.seq fun _ hK4 _ => ?_
  refine CJ.region ?_
  refine J.p (PR.move rfl) rfl ?_
  refine J.p (PR.lss rfl rfl) rfl ?_
  refine J.nil ?_
  refine EJ.thenN (hK4 ?_)
  refine CJ.condD rfl (fun h11 => ?_) (fun h11 => ?_)
  ·
    refine CJ.seq fun _ hK5 _ => ?_
    refine CJ.region ?_
    refine J.p (PR.assign rfl) rfl ?_
    refine J.nil ?_
    refine EJ.thenN (hK5 ?_)
    refine CJ.ret ?_
    refine EJ.thenR ?_
    refine EJ.ret1 rfl (Res.tmp rfl) fun w hH => ?_
    exact ⟨ri (by unfold szv; rw [if_pos (by omega)]), hH⟩
  ·
    refine CJ.skip ?_
    refine EJ.thenN (hK3 ?_)
    refine CJ.seq fun _ hK6 _ => ?_
    refine CJ.seq fun _ hK7 _ => ?_
    refine CJ.region ?_
    refine J.p (PR.assign rfl) rfl ?_
    refine J.nil ?_
    refine EJ.thenN (hK7 ?_)
    refine CJ.block ?_
    refine CJ.loopU (σ := Nat) (fun (k : Nat) => [(5, .int .i64 (k : Int)), (1, .int .i64 (left - fs.length - tot (fs.take k)))]) (fun (k : Nat) => H) (fun (k : Nat) => L) (fun (k : Nat) => k ≤ fs.length ∧ 0 ≤ left - fs.length - tot (fs.take k)) (fun (k : Nat) => fs.length - k) 0 ⟨by omega, by simp [tot]; omega⟩ ⟨rfl, ⟨(vi (by simp [tot])), trivial⟩⟩ rfl rfl ?_
    rintro k ⟨hk, hI⟩ _ hAg0
    skip
    refine CJ.seq fun _ hK8 _ => ?_
    refine CJ.seq fun _ hK9 _ => ?_
    refine CJ.region ?_
    refine J.p (PR.move rfl) rfl ?_
    refine J.p (PR.move rfl) rfl ?_
    refine J.p (PR.lenSlice u47 rfl rfl) rfl ?_
    refine J.p (PR.lss rfl rfl) rfl ?_
    refine J.nil ?_
    refine EJ.thenN (hK9 ?_)
    refine CJ.condD rfl (fun h15 => ?_) (fun h15 => ?_)
    ·
      have hlk := hl k (by omega)
      have ts := tot_succ (fs := fs) (i := k) (by omega)
      have tp := tot_pre (fs := fs) (i := k + 1) (by omega)
      refine CJ.skip ?_
      refine EJ.thenN (hK8 ?_)
      refine CJ.seq fun _ hK10 _ => ?_
      refine CJ.block ?_
      refine CJ.seq fun _ hK11 _ => ?_
      refine CJ.region ?_
      refine J.p (PR.move rfl) rfl ?_
      refine J.p (PR.move rfl) rfl ?_
      refine J.p (PR.idx1 u47 sz25 rfl rfl rfl (by omega) hfs.sm) rfl ?_
      obtain ⟨qe21, ce21, he21, le21, Fe21⟩ := hfs k (by omega)
      refine J.p (PR.loadHagg (cs := [_]) rfl (one_cell he21) (hfs.sm (i := k) (by omega)) ag25) rfl ?_
      refine J.p (PR.move rfl) rfl ?_
      refine J.call fn18 rfl rfl fun w hH => (szForm_c Fe21 (by omega) hH).mono ?_
      rintro _ w ⟨rfl, hH⟩
      refine ⟨_, rfl, fun a hF => J.of hF hH ?_⟩
      refine J.p (PR.assign rfl) rfl ?_
      refine J.nil ?_
      refine EJ.thenN (hK11 ?_)
      refine CJ.seq fun _ hK12 _ => ?_
      refine CJ.region ?_
      refine J.p (PR.move rfl) rfl ?_
      refine J.p (PR.lss rfl rfl) rfl ?_
      refine J.nil ?_
      refine EJ.thenN (hK12 ?_)
      refine CJ.condD rfl (fun h25 => ?_) (fun h25 => ?_)
      ·
        refine CJ.seq fun _ hK13 _ => ?_
        refine CJ.region ?_
        refine J.p (PR.assign rfl) rfl ?_
        refine J.nil ?_
        refine EJ.thenN (hK13 ?_)
        refine CJ.ret ?_
        refine EJ.inR ?_
        refine EJ.thenR ?_
        refine EJ.thenR ?_
        refine EJ.inR ?_
        refine EJ.thenR ?_
        refine EJ.ret1 rfl (Res.tmp rfl) fun w hH => ?_
        exact ⟨ri (by unfold szv; rw [if_pos (by split at h25 <;> omega)]), hH⟩
      ·
        refine CJ.skip ?_
        refine EJ.inN ?_
        refine EJ.thenN (hK10 ?_)
        refine CJ.region ?_
        refine J.p (PR.move rfl) rfl ?_
        refine J.p (PR.add rfl rfl (by first | exact nw _ (by omega) | rfl)) rfl ?_
        refine J.p (PR.assign rfl) rfl ?_
        refine J.nil ?_
        refine EJ.thenN ?_
        exact hAg0 (k + 1) ⟨by omega, by split at h25 <;> omega⟩ (by omega) 18 rfl rfl ⟨rfl, ⟨(vi (by split at h25 <;> split <;> omega)), trivial⟩⟩ rfl rfl
    ·
      refine CJ.exit ?_
      refine EJ.thenE ?_
      refine EJ.thenE ?_
      refine EJ.inE ?_
      refine EJ.thenN (hK6 ?_)
      refine CJ.seq fun _ hK14 _ => ?_
      refine CJ.region ?_
      refine J.p (PR.move rfl) rfl ?_
      refine J.p (PR.assign rfl) rfl ?_
      refine J.nil ?_
      refine EJ.thenN (hK14 ?_)
      refine CJ.ret ?_
      refine EJ.ret1 rfl (Res.tmp rfl) fun w hH => ?_
      obtain rfl : k = fs.length := by omega
      rw [List.take_length] at hI ⊢
      exact ⟨ri (by unfold szv; rw [if_neg (by omega)]), hH⟩
set_option maxRecDepth 10000 in
theorem szInt64S_c {B : World} {H0 H : HP} {L : List SA} {w : World} {qxs : Option Addr} {cxs : Nat} {xs : List Int} {left : Int}  (hxs : Ints H qxs xs) (hn : 0 ≤ left ∧ left ≤ 1000000000 ∧ xs.length ≤ 9223372036854775807) (hH : Hp B H0 H L w) :
    Calls Try.prog 88 [.slice qxs xs.length cxs, .int .i64 left].toArray w fun e w' => e = .returned (.int .i64 (if left - xs.length < 0 then -1 else left - xs.length)) ∧ Hp B H0 H L w' := by
  refine CJ.enter Try.func88 rfl 12 rfl rfl [(0, .slice qxs xs.length cxs), (1, .int .i64 left)] rfl hH ?_
  clear hH
  refine CJ.seq fun _ hK1 _ => ?_
  refine CJ.region ?_
  refine J.p (PR.assign rfl) rfl ?_
  refine J.nil ?_
  refine EJ.thenN (hK1 ?_)
  refine CJ.seq fun _ hK2 _ => ?_
  refine CJ.region ?_
  refine J.p (PR.move rfl) rfl ?_
  refine J.p (PR.move rfl) rfl ?_
  refine J.p (PR.lenSlice u22 rfl rfl) rfl ?_
  refine J.p (PR.sub rfl rfl (by first | exact nw _ (by omega) | rfl)) rfl ?_
  refine J.p (PR.assign rfl) rfl ?_
  refine J.nil ?_
  refine EJ.thenN (hK2 ?_)
  refine CJ.seq fun _ hK3 _ => ?_
  refine CJ.seq fun _ hK4 _ => ?_
  refine CJ.region ?_
  refine J.p (PR.move rfl) rfl ?_
  refine J.p (PR.lss rfl rfl) rfl ?_
  refine J.nil ?_
  refine EJ.thenN (hK4 ?_)
  refine CJ.condD rfl (fun h10 => ?_) (fun h10 => ?_)
  ·
    refine CJ.seq fun _ hK5 _ => ?_
    refine CJ.region ?_
    refine J.p (PR.assign rfl) rfl ?_
    refine J.nil ?_
    refine EJ.thenN (hK5 ?_)
    refine CJ.ret ?_
    refine EJ.thenR ?_
    refine EJ.ret1 rfl (Res.tmp rfl) fun w hH => ?_
    exact ⟨ri (if_pos h10).symm, hH⟩
  ·
    refine CJ.skip ?_
    refine EJ.thenN (hK3 ?_)
    refine CJ.seq fun _ hK6 _ => ?_
    refine CJ.region ?_
    refine J.p (PR.move rfl) rfl ?_
    refine J.p (PR.assign rfl) rfl ?_
    refine J.nil ?_
    refine EJ.thenN (hK6 ?_)
    refine CJ.ret ?_
    refine EJ.ret1 rfl (Res.tmp rfl) fun w hH => ?_
    exact ⟨ri (if_neg h10).symm, hH⟩
set_option maxRecDepth 10000 in
theorem szAlgebra_c {B : World} {H0 H : HP} {L : List SA} {w : World} {qad qaf : Option Addr} {cad caf : Nat} {ad : List Int} {af : List (List Term)} {left : Int}  (had : Ints H qad ad) (haf : Forms H qaf af) (hn : 0 ≤ left ∧ left ≤ 1000000000 ∧ ad.length ≤ 9223372036854775807 ∧ af.length ≤ 9223372036854775807) (hl : ∀ i, i < af.length → (fm af i).length ≤ 9223372036854775807) (hH : Hp B H0 H L w) :
    Calls Try.prog 33 [.agg [.slice qad ad.length cad, .slice qaf af.length caf].toArray, .int .i64 left].toArray w fun e w' => e = .returned (.int .i64 (szv (left - ad.length - af.length - tot af))) ∧ Hp B H0 H L w' := by
  refine CJ.enter Try.func33 rfl 18 rfl rfl [(0, .agg [.slice qad ad.length cad, .slice qaf af.length caf].toArray), (1, .int .i64 left)] rfl hH ?_
  clear hH
  refine CJ.seq fun _ hK1 _ => ?_
  refine CJ.region ?_
  refine J.box rfl rfl rfl fun g2 => ?_
  refine J.p (PR.assign rfl) rfl ?_
  refine J.nil ?_
  refine EJ.thenN (hK1 ?_)
  refine CJ.seq fun _ hK2 _ => ?_
  refine CJ.region ?_
  refine J.p (PR.fldA u49 rfl sz22 rfl) rfl ?_
  refine J.p (PR.load rfl At.z rfl pl22) rfl ?_
  refine J.p (PR.move rfl) rfl ?_
  refine J.call fn88 rfl rfl fun w hH => (szInt64S_c had (by omega) hH).mono ?_
  rintro _ w ⟨rfl, hH⟩
  refine ⟨_, rfl, fun a hF => J.of hF hH ?_⟩
  refine J.p (PR.assign rfl) rfl ?_
  refine J.nil ?_
  refine EJ.thenN (hK2 ?_)
  refine CJ.seq fun _ hK3 _ => ?_
  refine CJ.seq fun _ hK4 _ => ?_
  refine CJ.region ?_
  refine J.p (PR.move rfl) rfl ?_
  refine J.p (PR.lss rfl rfl) rfl ?_
  refine J.nil ?_
  refine EJ.thenN (hK4 ?_)
  refine CJ.condD rfl (fun h10 => ?_) (fun h10 => ?_)
  ·
    refine CJ.seq fun _ hK5 _ => ?_
    refine CJ.region ?_
    refine J.p (PR.assign rfl) rfl ?_
    refine J.nil ?_
    refine EJ.thenN (hK5 ?_)
    refine CJ.ret ?_
    refine EJ.thenR ?_
    refine EJ.ret1 rfl (Res.tmp rfl) fun w hH => ?_
    replace hH := hH.tail
    exact ⟨ri (by unfold szv; rw [if_pos (by split at h10 <;> omega)]), hH⟩
  ·
    refine CJ.skip ?_
    refine EJ.thenN (hK3 ?_)
    refine CJ.seq fun _ hK6 _ => ?_
    refine CJ.region ?_
    refine J.p (PR.fldA u49 rfl sz47 rfl) rfl ?_
    refine J.p (PR.load rfl At.z rfl pl47) rfl ?_
    refine J.p (PR.move rfl) rfl ?_
    refine J.call fn64 rfl rfl fun w hH => (szFormS_c haf (by split at h10 <;> split <;> omega) hl hH).mono ?_
    rintro _ w ⟨rfl, hH⟩
    refine ⟨_, rfl, fun a hF => J.of hF hH ?_⟩
    refine J.p (PR.assign rfl) rfl ?_
    refine J.nil ?_
    refine EJ.thenN (hK6 ?_)
    refine CJ.seq fun _ hK7 _ => ?_
    refine CJ.seq fun _ hK8 _ => ?_
    refine CJ.region ?_
    refine J.p (PR.move rfl) rfl ?_
    refine J.p (PR.lss rfl rfl) rfl ?_
    refine J.nil ?_
    refine EJ.thenN (hK8 ?_)
    refine CJ.condD rfl (fun h16 => ?_) (fun h16 => ?_)
    ·
      refine CJ.seq fun _ hK9 _ => ?_
      refine CJ.region ?_
      refine J.p (PR.assign rfl) rfl ?_
      refine J.nil ?_
      refine EJ.thenN (hK9 ?_)
      refine CJ.ret ?_
      refine EJ.thenR ?_
      refine EJ.ret1 rfl (Res.tmp rfl) fun w hH => ?_
      replace hH := hH.tail
      have e9 := h16
      unfold szv at e9 ⊢
      exact ⟨ri (by rw [if_pos (by split at h10 <;> split at e9 <;> omega)]), hH⟩
    ·
      refine CJ.skip ?_
      refine EJ.thenN (hK7 ?_)
      refine CJ.seq fun _ hK10 _ => ?_
      refine CJ.region ?_
      refine J.p (PR.move rfl) rfl ?_
      refine J.p (PR.assign rfl) rfl ?_
      refine J.nil ?_
      refine EJ.thenN (hK10 ?_)
      refine CJ.ret ?_
      refine EJ.ret1 rfl (Res.tmp rfl) fun w hH => ?_
      replace hH := hH.tail
      exact ⟨ri (by unfold szv at h16 ⊢; split at h10 <;> split at h16 <;> split <;> omega), hH⟩
set_option maxRecDepth 10000 in
theorem toAlgebra_c {B : World} {H0 H : HP} {L : List SA} {w : World} {qad qaf : Option Addr} {cad caf : Nat} {ad : List Int} {af : List (List Term)}  (had : Ints H qad ad) (haf : Forms H qaf af) (hn : ad.length ≤ 1048576 ∧ af.length ≤ 1048576) (hl : ∀ i, i < af.length → (fm af i).length ≤ 1048576) (hH : Hp B H0 H L w) :
    Calls Try.prog 35 [.agg [.slice qad ad.length cad, .slice qaf af.length caf].toArray].toArray w fun e w' => ∃ qd cd qf cf vs, e = .returned (.agg [.slice qd ad.length cd, .slice qf af.length cf].toArray) ∧ Hp B H0 H (own 2 1 qd ad.length cd (intsC ad) :: ownFs 29 88 qf cf vs af :: L) w' := by
  refine CJ.enter Try.func35 rfl 13 rfl rfl [(0, .agg [.slice qad ad.length cad, .slice qaf af.length caf].toArray)] rfl hH ?_
  clear hH
  refine CJ.seq fun _ hK1 _ => ?_
  refine CJ.region ?_
  refine J.box rfl rfl rfl fun g1 => ?_
  refine J.alloc ze41 rfl fun g2 => ?_
  refine J.nil ?_
  refine EJ.thenN (hK1 ?_)
  refine CJ.seq fun _ hK2 _ => ?_
  refine CJ.region ?_
  refine J.alloc ze41 rfl fun g3 => ?_
  refine J.nil ?_
  refine EJ.thenN (hK2 ?_)
  refine CJ.seq fun _ hK3 _ => ?_
  refine CJ.region ?_
  refine J.p (PR.fldA u49 rfl sz22 rfl) rfl ?_
  refine J.p (PR.load rfl (.s (.s .z)) rfl pl22) rfl ?_
  refine J.call fn20 rfl rfl fun w hH => (toInt64S_c had (by omega) hH).mono ?_
  rintro _ w ⟨qo6, co6, rfl, hH⟩
  refine ⟨_, rfl, fun a hF => J.of hF hH ?_⟩
  refine J.p (PR.fldA u41 rfl sz22 rfl) rfl ?_
  refine J.store rfl rfl rfl rfl sz22 (by simp [*]) (.s .z) ?_
  refine J.nil ?_
  refine EJ.thenN (hK3 ?_)
  refine CJ.seq fun _ hK4 _ => ?_
  refine CJ.region ?_
  refine J.p (PR.fldA u49 rfl sz47 rfl) rfl ?_
  refine J.p (PR.load rfl (.s (.s (.s .z))) rfl pl47) rfl ?_
  refine J.call fn66 rfl rfl fun w hH => (toFormS_c haf (by omega) hl hH).mono ?_
  rintro _ w ⟨qo10, co10, vso10, rfl, hH⟩
  refine ⟨_, rfl, fun a hF => J.of hF hH ?_⟩
  refine J.p (PR.fldA u41 rfl sz39 rfl) rfl ?_
  refine J.store rfl rfl rfl rfl sz39 (by simp [*]) (.s (.s .z)) ?_
  refine J.nil ?_
  refine EJ.thenN (hK4 ?_)
  refine CJ.seq fun _ hK5 _ => ?_
  refine CJ.region ?_
  refine J.p (PR.loadAll rfl (.s (.s .z)) (by simpa [*] using ag41)) rfl ?_
  refine J.storeAll rfl rfl (by first | exact bytesC_one _ | exact intsC_one _ | exact Term.c_one _ | simp [Value.oneCell']) (by simpa [*] using sz41) (by simp [*]) (.s (.s (.s .z))) ?_
  refine J.nil ?_
  refine EJ.thenN (hK5 ?_)
  refine CJ.ret ?_
  refine EJ.ret1 rfl (Res.agg rfl (.s (.s (.s .z))) (by simpa [*] using ag41)) fun w hH => ?_
  replace hH := hH.sublist (.cons_cons _ (.cons_cons _ (.cons _ (.cons _ (.cons _ (List.Sublist.refl _))))))
  exact ⟨_, _, _, _, _, rfl, hH.front (.s .z)⟩
set_option maxRecDepth 10000 in
theorem sIsAlgebra_c {B : World} {H0 H : HP} {L : List SA} {w : World} {qad qaf : Option Addr} {cad caf : Nat} {ad : List Int} {af : List (List Term)}  (had : Ints H qad ad) (haf : Forms H qaf af) (hn8 : ad.length ≤ 1048576) (hn9 : af.length ≤ 1048576) (hl9 : ∀ i, i < af.length → (fm af i).length ≤ 1048576) (hH : Hp B H0 H L w) :
    Calls Try.prog 34 [.agg [.slice qad ad.length cad, .slice qaf af.length caf].toArray].toArray w fun e w' => e = .returned (.bool (isAlg ad af)) ∧ Hp B H0 H L w' := by
  refine CJ.enter Try.func34 rfl 5 rfl rfl [(0, .agg [.slice qad ad.length cad, .slice qaf af.length caf].toArray)] rfl hH ?_
  clear hH
  refine CJ.seq fun _ hK1 _ => ?_
  refine CJ.region ?_
  refine J.box rfl rfl rfl fun g1 => ?_
  refine J.p (PR.assign rfl) rfl ?_
  refine J.nil ?_
  refine EJ.thenN (hK1 ?_)
  refine CJ.seq fun _ hK2 _ => ?_
  refine CJ.region ?_
  refine J.p (PR.loadAll rfl At.z (by simpa [*] using ag41)) rfl ?_
  refine J.call fn89 rfl rfl fun w hH => (l02Is_c had haf hn8 hn9 hl9 hH).mono ?_
  rintro _ w ⟨rfl, hH⟩
  refine ⟨_, rfl, fun a hF => J.of hF hH ?_⟩
  refine J.p (PR.assign rfl) rfl ?_
  refine J.nil ?_
  refine EJ.thenN (hK2 ?_)
  refine CJ.ret ?_
  refine EJ.ret1 rfl (Res.tmp rfl) fun w hH => ?_
  replace hH := hH.tail
  exact ⟨rfl, hH⟩
end Go.Proofs.Ytpojpokldncglaa.G
