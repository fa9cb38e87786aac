/- A part of the walk of one law: what the functions compute. No condition. -/
import Derived.Test.YtbjhllmcnfncdaaDoorRows
import Derived.Test.YtbjhllmcnfncdaaDoorProg
import Derived.WalkKit
import Derived.KernelRfl
import Derived.JoinedOf
import Derived.Maps.AppendAt
import Derived.Still
import Derived.ProofKit
import Derived.OpenShut
import Derived.StillTail
import Derived.Deep.Upon
import Derived.WalkSpells
import Derived.Maps.Range
import Derived.Laws.Concat
import Derived.Laws.IdiomStrings
import Derived.Laws.Strings
import Derived.Lib.ItoaNum
import Derived.Lib.Join
import Derived.Lib.LaidTab
import Derived.DeepKeys4
import Derived.Shelf.Strings.Builder1
import Derived.Shelf.Strings.Builder2
import Derived.Shelf.Strings.OnBuilder
import Derived.Shelf.Strings.BuilderF
import Derived.Shelf.Strings.BuilderK
import Derived.Shelf.Strconv.Itoa0
import Derived.Shelf.Strconv.Itoa1
import Derived.Shelf.LaysM
import Derived.Shelf.Strconv.Itoa2
import Derived.Shelf.Strconv.Itoa3
import Derived.Shelf.Strconv.Itoa4
import Derived.Lib.AppendIntMem
import Derived.Test.YtbjhllmcnfncdaaDoorCards
import Derived.Test.YtbjhllmcnfncdaaDoorTie
import Derived.LaidMore
import Derived.Stop.Joined
import Derived.Stop.LaidErr
import Derived.SevenTiedAt
import Derived.MakeChecks
import Derived.ChangeOld
import Derived.Below
import Derived.SizedLaws
import Derived.Test.YtbjhllmcnfncdaaDoorPAltc
set_option linter.unusedVariables false
set_option linter.unusedSimpArgs false
namespace Go.Proofs.YtbjhllmcnfncdaaDoor.G
open Go Go.RowKit
namespace Xi
theorem u108 : Tryd.prog.underlying 108 = some (TypeDesc.map 88 2) := by kernel_rfl
theorem u115 : Tryd.prog.underlying 115 = some (TypeDesc.array 8 108) := by kernel_rfl
theorem u2 : Tryd.prog.underlying 2 = some (TypeDesc.int .i64) := by kernel_rfl
theorem u22 : Tryd.prog.underlying 22 = some (TypeDesc.slice 2) := by kernel_rfl
theorem u3 : Tryd.prog.underlying 3 = some (TypeDesc.int .i64) := by kernel_rfl
theorem u44 : Tryd.prog.underlying 44 = some (TypeDesc.struct #[{ name := "Degrees", type := 22, offset := 0, embedded := false, tag := "", pkgPath := "", byteOffset := 0 }, { name := "Images", type := 42, offset := 1, embedded := false, tag := "", pkgPath := "", byteOffset := 24 }]) := by kernel_rfl
theorem u88 : Tryd.prog.underlying 88 = some (TypeDesc.array 8 3) := by kernel_rfl
theorem sz108 : Size Tryd.prog 108 1 := by unfold Size; kernel_rfl
theorem sz115 : Size Tryd.prog 115 8 := by unfold Size; kernel_rfl
theorem sz2 : Size Tryd.prog 2 1 := by unfold Size; kernel_rfl
theorem sz22 : Size Tryd.prog 22 1 := by unfold Size; kernel_rfl
theorem sz3 : Size Tryd.prog 3 1 := by unfold Size; kernel_rfl
theorem sz88 : Size Tryd.prog 88 8 := by unfold Size; kernel_rfl
theorem ze115 : Zero Tryd.prog 115 [.map none, .map none, .map none, .map none, .map none, .map none, .map none, .map none] := by unfold Zero; kernel_rfl
theorem ze88 : Zero Tryd.prog 88 [.int .i64 0, .int .i64 0, .int .i64 0, .int .i64 0, .int .i64 0, .int .i64 0, .int .i64 0, .int .i64 0] := by unfold Zero; kernel_rfl
theorem bz88 : ∀ w, (Instr.build 88 #[]).run Tryd.prog w = .ok (.agg [.int .i64 0, .int .i64 0, .int .i64 0, .int .i64 0, .int .i64 0, .int .i64 0, .int .i64 0, .int .i64 0].toArray) w := fun _ => by kernel_rfl
theorem pl108 : Plain Tryd.prog 108 := ⟨_, u108, rfl⟩
theorem pl2 : Plain Tryd.prog 2 := ⟨_, u2, rfl⟩
theorem pl22 : Plain Tryd.prog 22 := ⟨_, u22, rfl⟩
theorem pl3 : Plain Tryd.prog 3 := ⟨_, u3, rfl⟩
theorem ag88 : Agg Tryd.prog 88 8 := ⟨_, u88, rfl, by kernel_rfl⟩
theorem fn81 : Fn Tryd.prog 81 := ⟨_, Tryd.func81, by kernel_rfl, rfl⟩
theorem fn82 : Fn Tryd.prog 82 := ⟨_, Tryd.func82, by kernel_rfl, rfl⟩
theorem fn83 : Fn Tryd.prog 83 := ⟨_, Tryd.func83, by kernel_rfl, rfl⟩
theorem fn84 : Fn Tryd.prog 84 := ⟨_, Tryd.func84, by kernel_rfl, rfl⟩
theorem foll0 : Tryd.prog.follows .mixedOrders = true := by kernel_rfl
end Xi
open Xi
def aheadP (p : Pw) (i : Nat) : Pw := (List.range 8).map fun j => if j < i then p.getD j 0 else 0
def leftP (p : Pw) (i : Nat) : Pw := (aheadP p i).set i (p.getD i 0 - 1)
def behP (p : Pw) (k : Nat) : Pw := (List.range 8).map fun j => if j < k then 0 else p.getD j 0
@[simp] theorem aheadP_len (p : Pw) (i : Nat) : (aheadP p i).length = 8 := by simp [aheadP]
@[simp] theorem leftP_len (p : Pw) (i : Nat) : (leftP p i).length = 8 := by simp [leftP]
@[simp] theorem behP_len (p : Pw) (k : Nat) : (behP p k).length = 8 := by simp [behP]
theorem aheadP_get {p : Pw} {i j : Nat} (h : j < 8) : (aheadP p i).getD j 0 = if j < i then p.getD j 0 else 0 := by simp [aheadP, List.getD_eq_getElem?_getD, h]
theorem behP_get {p : Pw} {k j : Nat} (h : j < 8) : (behP p k).getD j 0 = if j < k then 0 else p.getD j 0 := by simp [behP, List.getD_eq_getElem?_getD, h]
theorem getD_set8 {p : Pw} {i j : Nat} {x : Int} : (p.set i x).getD j 0 = if i = j ∧ i < p.length then x else p.getD j 0 := by
  rw [List.getD_eq_getElem?_getD, List.getD_eq_getElem?_getD, List.getElem?_set]
  by_cases e : i = j
  · subst e
    by_cases h : i < p.length
    · simp [h]
    · simp [h]
  · simp [e]
theorem list8 {p q : Pw} (hp : p.length = 8) (hq : q.length = 8) (h : ∀ j, j < 8 → p.getD j 0 = q.getD j 0) : p = q := list_eq_of (by omega) fun j hj => h j (by omega)
theorem aheadP_zero (p : Pw) : aheadP p 0 = List.replicate 8 0 := list8 (by simp) (by simp) fun j hj => by
  rw [aheadP_get hj, if_neg (by omega), List.getD_eq_getElem?_getD, List.getElem?_replicate, if_pos hj]
  rfl
theorem aheadP_set {p : Pw} {i : Nat} (hi : i < 8) : (aheadP p i).set i (p.getD i 0) = aheadP p (i + 1) := list8 (by simp) (by simp) fun j hj => by
  rw [getD_set8, aheadP_get hj, aheadP_get hj]
  by_cases e : i = j
  · subst e
    rw [if_pos ⟨rfl, by simpa using hi⟩, if_pos (by omega)]
  · rw [if_neg fun h => e h.1]
    by_cases h : j < i
    · rw [if_pos h, if_pos (by omega)]
    · rw [if_neg h, if_neg (by omega)]
theorem behP_zero {p : Pw} (hp : p.length = 8) : behP p 0 = p := list8 (by simp) hp fun j hj => by rw [behP_get hj, if_neg (by omega)]
theorem behP_set {p : Pw} {k : Nat} (hk : k < 8) : (behP p k).set k 0 = behP p (k + 1) := list8 (by simp) (by simp) fun j hj => by
  rw [getD_set8, behP_get hj, behP_get hj]
  by_cases e : k = j
  · subst e
    rw [if_pos ⟨rfl, by simpa using hk⟩, if_pos (by omega)]
  · rw [if_neg fun h => e h.1]
    by_cases h : j < k
    · rw [if_pos h, if_pos (by omega)]
    · rw [if_neg h, if_neg (by omega)]
theorem behP_pok {M : Int} {p : Pw} (h : Pok M p) (k : Nat) : Pok M (behP p k) := ⟨by simp, fun j => by
  have := h.bd j
  rcases Nat.lt_or_ge j 8 with hj | hj
  · rw [behP_get hj]
    split <;> omega
  · rw [getD_ge (by simp; omega)]
    omega⟩
theorem leftP_pok {M : Int} {p : Pw} (h : Pok M p) {i : Nat} (hi : 0 < p.getD i 0) : Pok M (leftP p i) := ⟨by simp, fun j => by
  have h1 := h.bd j
  have h2 := h.bd i
  unfold leftP
  rw [getD_set8]
  split
  · omega
  · rcases Nat.lt_or_ge j 8 with hj | hj
    · rw [aheadP_get hj]
      split <;> omega
    · rw [getD_ge (by simp; omega)]
      omega⟩
def dsg (ds p : Pw) : Nat → Int
  | 0 => 1
  | i + 1 => if i < ds.length ∧ (ds.getD i 0).tmod 2 = 1 ∧ (p.getD i 0).tmod 2 = 1 then 0 - dsg ds p i else dsg ds p i
theorem dsg_bd (ds p : Pw) : ∀ i : Nat, -1 ≤ dsg ds p i ∧ dsg ds p i ≤ 1
  | 0 => by simp [dsg]
  | i + 1 => by
    have := dsg_bd ds p i
    simp only [dsg]
    split <;> omega
theorem dsg_yes {ds p : Pw} {i : Nat} (h1 : (i : Int) < ds.length) (h2 : (ds.getD i 0).tmod 2 = 1) (h3 : (p.getD i 0).tmod 2 = 1) : 0 - dsg ds p i = dsg ds p (i + 1) := by simp only [dsg]; rw [if_pos ⟨by omega, h2, h3⟩]
theorem dsg_no {ds p : Pw} {i : Nat} (h : ¬ ((i : Int) < ds.length ∧ (ds.getD i 0).tmod 2 = 1 ∧ (p.getD i 0).tmod 2 = 1)) : dsg ds p i = dsg ds p (i + 1) := by simp only [dsg]; rw [if_neg fun h' => h ⟨by omega, h'.2⟩]
def dT (ds : Pw) (im : Sm) (p : Pw) (i : Nat) : Sm := timesS ds (timesS ds [(leftP p i, 1)] im) [(behP p (i + 1), 1)]
def dP (ds : Pw) (fs : List (List Term)) (x : Pw × Int) (i : Nat) : Sm := if 0 < x.1.getD i 0 then scl (dT ds (toS (fm fs i)) x.1 i) (fld (dsg ds x.1 i * x.2 * x.1.getD i 0)) else []
def dLk (ds : Pw) (fs : List (List Term)) (x : Pw × Int) (k : Nat) : Sm := (List.range k).flatMap (dP ds fs x)
def dAll (ds : Pw) (fs : List (List Term)) (s : Sm) : Sm := s.flatMap fun x => dLk ds fs x 8
def dS (ds : Pw) (fs : List (List Term)) (s : Sm) : Sm := acc [] (dAll ds fs s)
theorem dLk_succ (ds : Pw) (fs : List (List Term)) (x : Pw × Int) (k : Nat) : dLk ds fs x (k + 1) = dLk ds fs x k ++ dP ds fs x k := by
  unfold dLk
  rw [List.range_succ, List.flatMap_append]
  simp
theorem dT_sok {ds : Pw} {im : Sm} {p : Pw} {i : Nat} {M N : Int} (hp : Pok M p) (hi : 0 < p.getD i 0) (hm : Sok N im) : Sok (M + N + M) (dT ds im p i) :=
  ((Sok.one (leftP_pok hp hi) (by omega)).times hm).times (Sok.one (behP_pok hp (i + 1)) (by omega))
theorem dP_pok {ds : Pw} {fs : List (List Term)} {x : Pw × Int} {i : Nat} {M N : Int} (hp : Pok M x.1) (hf : Fok N fs) (hz : 0 < x.1.getD i 0 → i < fs.length) : ∀ z ∈ dP ds fs x i, Pok (M + N + M) z.1 := fun z hz' => by
  unfold dP at hz'
  split at hz'
  · rename_i h
    exact scl_pok (dT_sok hp h (hf i (hz h)).1) _ z hz'
  · simp at hz'
theorem dLk_pok {ds : Pw} {fs : List (List Term)} {x : Pw × Int} {k : Nat} {M N : Int} (hp : Pok M x.1) (hf : Fok N fs) (hz : ∀ i, 0 < x.1.getD i 0 → i < fs.length) : ∀ z ∈ dLk ds fs x k, Pok (M + N + M) z.1 := fun z hz' => by
  obtain ⟨i, _, h⟩ := List.mem_flatMap.1 hz'
  exact dP_pok hp hf (hz i) z h
def Occ (n : Nat) (s : Sm) : Prop := ∀ x ∈ s, ∀ i, 0 < x.1.getD i 0 → i < n
theorem dAll_pok {ds : Pw} {fs : List (List Term)} {s : Sm} {M N : Int} (hs : Sok M s) (hf : Fok N fs) (ho : Occ fs.length s) : ∀ z ∈ dAll ds fs s, Pok (M + N + M) z.1 := fun z hz => by
  obtain ⟨x, hx, h⟩ := List.mem_flatMap.1 hz
  exact dLk_pok (hs.key x hx) hf (ho x hx) z h
theorem dAll_mid {ds : Pw} {fs : List (List Term)} {l1 l2 : Sm} {x : Pw × Int} : (dAll ds fs (l1 ++ x :: l2)).Perm (dLk ds fs x 8 ++ dAll ds fs (l1 ++ l2)) := by
  have h : (dAll ds fs (l1 ++ x :: l2)).Perm (dAll ds fs (x :: (l1 ++ l2))) := (List.perm_middle).flatMap_right _
  exact h
theorem acc_dP {ds : Pw} {fs : List (List Term)} {x : Pw × Int} {k : Nat} {dn : Sm} (h : 0 < x.1.getD k 0) : acc (acc [] (dn ++ dLk ds fs x k)) (scl (dT ds (toS (fm fs k)) x.1 k) (fld (dsg ds x.1 k * x.2 * x.1.getD k 0))) = acc [] (dn ++ dLk ds fs x (k + 1)) := by
  rw [dLk_succ, ← List.append_assoc, acc_app _ (dn ++ dLk ds fs x k)]
  unfold dP
  rw [if_pos h]
theorem acc_dN {ds : Pw} {fs : List (List Term)} {x : Pw × Int} {k : Nat} (h : ¬ 0 < x.1.getD k 0) : dLk ds fs x k = dLk ds fs x (k + 1) := by
  rw [dLk_succ]
  unfold dP
  rw [if_neg h, List.append_nil]
set_option maxHeartbeats 8000000 in
set_option maxRecDepth 10000 in
theorem d_c {B : World} {H0 H : HP} {L : List SA} {w : World} {ba : Nat} {qad qaf : Option Addr} {cad caf : Nat} {ad : List Int} {af : List (List Term)} {vs : Value} {Ms : Int} {s : Sm} {Mi : Int} (pad : CellAt H ba 0 (.slice qad ad.length cad)) (paf : CellAt H ba 1 (.slice qaf af.length caf)) (had : Ints H qad ad) (haf : Forms H qaf af) (hs : SumH H vs s) (ks : Sok Ms s) (hn : ad.length ≤ 8) (hd : ∀ j, 0 ≤ ad.getD j 0 ∧ ad.getD j 0 ≤ 12) (hf : Fok Mi af) (hl : af.length = ad.length) (ho : Occ af.length s) (hM : 0 ≤ Mi ∧ Ms + Mi + Ms ≤ 1000000) (hH : Hp B H0 H L w) :
    Calls Tryd.prog 72 [.pointer (some ⟨ba, 0, none⟩), vs].toArray w fun e w' => ∃ b, e = .returned (.map (some b)) ∧ Hp B H0 H (osum b (dS ad af s) :: L) w' := by
  refine CJ.enter Tryd.func72 rfl 107 rfl rfl [(0, .pointer (some ⟨ba, 0, none⟩)), (1, vs)] rfl hH ?_
  have hw0 := hH.old
  have hw1 := hH.le
  clear hH
  refine CJ.seq fun _ hK1 _ => ?_
  refine CJ.region ?_
  refine J.p (PR.assign rfl) rfl ?_
  refine J.nil ?_
  refine EJ.thenN (hK1 ?_)
  refine CJ.seq fun _ hK2 _ => ?_
  refine CJ.region ?_
  refine J.makeMap pwE (Value.int .i64) pwOk rfl fun bm17 => ?_
  refine J.p (PR.move rfl) rfl ?_
  refine J.call fn81 rfl rfl fun w hH => (images_c pad paf had haf hf (by omega) hH).mono ?_
  rintro _ w ⟨bs19, rfl, hH⟩
  refine ⟨_, rfl, fun a hF => J.of hF hH ?_⟩
  refine J.alloc ze115 rfl fun g6 => ?_
  refine J.p (PR.assign rfl) rfl ?_
  refine J.storeAll rfl rfl (imgK_one _ _) (by simpa using sz115) (by simp) .z ?_
  refine J.fixA (.s .z) fun H6 hle6 hA6 => ?_
  replace pad := pad.le hle6
  replace paf := paf.le hle6
  replace had := had.le hle6
  replace haf := haf.le hle6
  replace hs := hs.le hle6
  obtain ⟨bs, ess, cls, rfl, hbs, hes⟩ := hs
  have hs : SumH H6 (.map (some bs)) s := ⟨bs, ess, cls, rfl, hbs, hes⟩
  refine J.nil ?_
  refine EJ.thenN (hK2 ?_)
  refine CJ.seq fun _ hK3 _ => ?_
  refine CJ.seq fun _ hK4 _ => ?_
  refine CJ.region ?_
  refine J.p (PR.move rfl) rfl ?_
  refine J.range u108 rfl hbs hes rfl fun r21 => ?_
  refine J.nil ?_
  refine EJ.thenN (hK4 ?_)
  refine CJ.block ?_
  refine CJ.loopU (σ := Option (Pw × Int) × Sm × Sm) (fun ⟨la, ls, dn⟩ => []) (fun ⟨la, ls, dn⟩ => H6) (fun ⟨la, ls, dn⟩ => itr pwE (Value.int .i64) bs ess cls r21 la ls :: obj g6 (.cells (imgK bs19 af.length).toArray 115 (0, 0)) :: osum bm17 (acc [] (dn)) :: L) (fun ⟨la, ls, dn⟩ => (dn ++ dAll ad af ls).Perm (dAll ad af s) ∧ ∀ x ∈ ls, x ∈ s) (fun ⟨la, ls, dn⟩ => ls.length) (none, s, []) ⟨List.Perm.refl _, fun _ h => h⟩ trivial rfl rfl ?_
  rintro ⟨la, ls, dn⟩ hI _ hAg0
  have k0 : Sok (Ms + Mi + Ms) (acc [] dn) := Sok.nil.acc fun x hx => dAll_pok ks hf ho x (hI.1.mem_iff.1 (by simp [hx]))
  refine CJ.seq fun _ hK5 _ => ?_
  refine CJ.region ?_
  refine J.next rfl hbs hes (fun _ _ => At.z) rfl (fun hE22 => ?_) (fun nx22 la22 lb22 hL22 => ?_)
  ·
    refine J.p (PR.extract rfl rfl) rfl ?_
    refine J.nil ?_
    refine EJ.thenN (hK5 ?_)
    refine CJ.seq fun _ hK6 _ => ?_
    refine CJ.condF rfl ?_
    refine CJ.exit ?_
    refine EJ.thenE ?_
    refine EJ.thenE ?_
    refine EJ.inE ?_
    refine EJ.thenN (hK3 ?_)
    refine CJ.seq fun _ hK7 _ => ?_
    refine CJ.region ?_
    refine J.p (PR.move rfl) rfl ?_
    refine J.p (PR.assign rfl) rfl ?_
    refine J.nil ?_
    refine EJ.thenN (hK7 ?_)
    refine CJ.ret ?_
    refine EJ.ret1 rfl (Res.tmp rfl) fun w hH => ?_
    replace hH := hH.sublist (.cons _ (.cons _ (.cons_cons _ (List.Sublist.refl _))))
    have hp9 := perm_nil hI.1 (by rw [hE22]; rfl)
    have e9 : acc [] dn = dS ad af s := acc_perm Sok.nil (fun x hx => dAll_pok ks hf ho x (hp9.mem_iff.1 hx)) hp9
    rw [e9] at hH
    exact ⟨_, rfl, hH.weaken hle6 hw0 hw1⟩
  ·
    subst hL22
    have hu := hI.2 nx22 (by simp)
    have hup := ks.key nx22 hu
    have hu8 := hup.len
    have hv := ks.val nx22 hu
    have hu0 := hup.bd 0
    refine J.p (PR.extract rfl rfl) rfl ?_
    refine J.nil ?_
    refine EJ.thenN (hK5 ?_)
    refine CJ.seq fun _ hK8 _ => ?_
    refine CJ.condT rfl ?_
    refine CJ.skip ?_
    refine EJ.thenN (hK8 ?_)
    refine CJ.block ?_
    refine CJ.seq fun _ hK9 _ => ?_
    refine CJ.region ?_
    refine J.p (PR.entry rfl hbs hes At.z) rfl ?_
    refine J.p (PR.extract rfl rfl) rfl ?_
    refine J.p (PR.extract rfl rfl) rfl ?_
    refine J.alloc ze88 rfl fun g7 => ?_
    refine J.storeAll rfl rfl (by first | exact bytesC_one _ | exact intsC_one _ | exact Term.c_one _ | simp [Value.oneCell']) (by simpa [*] using sz88) (by simp [*]) At.z ?_
    refine J.p (PR.assign rfl) rfl ?_
    refine J.nil ?_
    refine EJ.thenN (hK9 ?_)
    refine CJ.seq fun _ hK10 _ => ?_
    refine CJ.region ?_
    refine J.p (PR.buildZ bz88) rfl ?_
    refine J.alloc ze88 rfl fun g9 => ?_
    refine J.storeAll rfl rfl (by first | exact bytesC_one _ | exact intsC_one _ | exact Term.c_one _ | simp [Value.oneCell']) (by simpa [*] using sz88) (by simp [*]) At.z ?_
    refine J.p (PR.assign rfl) rfl ?_
    refine J.nil ?_
    refine EJ.thenN (hK10 ?_)
    refine CJ.seq fun _ hK11 _ => ?_
    refine CJ.region ?_
    refine J.p (PR.loadAll rfl (.s .z) (by simpa [*] using ag88)) rfl ?_
    refine J.p (PR.move rfl) rfl ?_
    refine J.nil ?_
    refine EJ.thenN (hK11 ?_)
    refine CJ.block ?_
    refine CJ.loopU (σ := Nat) (fun (i : Nat) => [(29, .int .i64 (i : Int)), (10, .int .i64 (dsg ad nx22.1 i))]) (fun (i : Nat) => H6) (fun (i : Nat) => obj g9 (.cells (intsC (aheadP nx22.1 i)).toArray 88 (0, 0)) :: obj g7 (.cells (intsC nx22.1).toArray 88 (0, 0)) :: itr pwE (Value.int .i64) bs ess cls r21 (some nx22) (la22 ++ lb22) :: obj g6 (.cells (imgK bs19 af.length).toArray 115 (0, 0)) :: osum bm17 (acc [] (dn ++ dLk ad af nx22 i)) :: L) (fun (i : Nat) => i ≤ 8) (fun (i : Nat) => 8 - i) 0 (by omega) ⟨rfl, ⟨rfl, trivial⟩⟩ rfl (by simp only [aheadP_zero, dLk, List.range_zero, List.flatMap_nil, List.append_nil]; rfl) ?_
    rintro i hi _ hAg1
    have k1 : Sok (Ms + Mi + Ms) (acc [] (dn ++ dLk ad af nx22 i)) := Sok.nil.acc fun x hx => by
                          rcases List.mem_append.1 hx with h | h
                          · exact dAll_pok ks hf ho x (hI.1.mem_iff.1 (by simp [h]))
                          · exact dLk_pok hup hf (ho nx22 hu) x h
    have sb := dsg_bd ad nx22.1 i
    have eb := hup.bd i
    refine CJ.seq fun _ hK12 _ => ?_
    refine CJ.region ?_
    refine J.p (PR.lss rfl rfl) rfl ?_
    refine J.nil ?_
    refine EJ.thenN (hK12 ?_)
    refine CJ.seq fun _ hK13 _ => ?_
    refine CJ.condD rfl (fun hc30 => ?_) (fun hc30 => ?_)
    ·
      refine CJ.skip ?_
      refine EJ.thenN (hK13 ?_)
      refine CJ.seq fun _ hK14 _ => ?_
      refine CJ.block ?_
      refine CJ.seq fun _ hK15 _ => ?_
      refine CJ.region ?_
      refine J.p (PR.move rfl) rfl ?_
      refine J.p (PR.index u88 sz3 pl3 rfl rfl rfl (by omega) (intsC_get (by omega))) rfl ?_
      refine J.p (PR.assign rfl) rfl ?_
      refine J.p (PR.assign rfl) rfl ?_
      refine J.nil ?_
      refine EJ.thenN (hK15 ?_)
      refine CJ.cutU (σ := Unit) (fun (_ : Unit) => [(11, .int .i64 (i : Int)), (12, .int .i64 (nx22.1.getD i 0))]) (fun (_ : Unit) => H6) (fun (_ : Unit) => obj g9 (.cells (intsC (aheadP nx22.1 i)).toArray 88 (0, 0)) :: obj g7 (.cells (intsC nx22.1).toArray 88 (0, 0)) :: itr pwE (Value.int .i64) bs ess cls r21 (some nx22) (la22 ++ lb22) :: obj g6 (.cells (imgK bs19 af.length).toArray 115 (0, 0)) :: osum bm17 (acc [] (dn ++ dLk ad af nx22 (i + 1))) :: L) (fun (_ : Unit) => True) ?_ ?_
      ·
        intro _ hMt1
        refine CJ.seq fun _ hK16 _ => ?_
        refine CJ.region ?_
        refine J.p (PR.move rfl) rfl ?_
        refine J.p (PR.gtr rfl rfl) rfl ?_
        refine J.nil ?_
        refine EJ.thenN (hK16 ?_)
        refine CJ.condD rfl (fun h34 => ?_) (fun h34 => ?_)
        ·
          have hil := ho nx22 hu i h34
          have hlp := leftP_pok hup h34
          have hbp := behP_pok hup (i + 1)
          have hts := dT_sok (ds := ad) hup h34 (hf i hil).1
          have mb := mul_sb (b := nx22.2) (B := 10006) sb (by omega)
          have mb2 := mul_sb (b := nx22.1.getD i 0) (B := 1000000) mb (by omega)
          have fb := fld_bd (dsg ad nx22.1 i * nx22.2 * nx22.1.getD i 0)
          refine CJ.seq fun _ hK17 _ => ?_
          refine CJ.region ?_
          refine J.p (PR.loadAll rfl (.s .z) (by simpa [*] using ag88)) rfl ?_
          refine J.alloc ze88 rfl fun g13 => ?_
          refine J.storeAll rfl rfl (by first | exact bytesC_one _ | exact intsC_one _ | exact Term.c_one _ | simp [Value.oneCell']) (by simpa [*] using sz88) (by simp [*]) At.z ?_
          refine J.nil ?_
          refine EJ.thenN (hK17 ?_)
          refine CJ.seq fun _ hK18 _ => ?_
          refine CJ.seq fun _ hK19 _ => ?_
          refine CJ.region ?_
          refine J.p (PR.move rfl) rfl ?_
          refine J.p (PR.add rfl rfl (by first | exact nw _ (by omega) | rfl)) rfl ?_
          refine J.p (PR.move rfl) rfl ?_
          refine J.nil ?_
          refine EJ.thenN (hK19 ?_)
          refine CJ.block ?_
          refine CJ.loopU (σ := Nat) (fun (k : Nat) => [(38, .int .i64 (k : Int))]) (fun (k : Nat) => H6) (fun (k : Nat) => obj g13 (.cells (intsC (behP nx22.1 k)).toArray 88 (0, 0)) :: obj g9 (.cells (intsC (aheadP nx22.1 i)).toArray 88 (0, 0)) :: obj g7 (.cells (intsC nx22.1).toArray 88 (0, 0)) :: itr pwE (Value.int .i64) bs ess cls r21 (some nx22) (la22 ++ lb22) :: obj g6 (.cells (imgK bs19 af.length).toArray 115 (0, 0)) :: osum bm17 (acc [] (dn ++ dLk ad af nx22 i)) :: L) (fun (k : Nat) => k ≤ i + 1) (fun (k : Nat) => i + 1 - k) 0 (by omega) ⟨rfl, trivial⟩ rfl (by rw [behP_zero hu8]) ?_
          rintro k hI _ hAg2
          refine CJ.seq fun _ hK20 _ => ?_
          refine CJ.region ?_
          refine J.p (PR.lss rfl rfl) rfl ?_
          refine J.nil ?_
          refine EJ.thenN (hK20 ?_)
          refine CJ.seq fun _ hK21 _ => ?_
          refine CJ.condD rfl (fun h39 => ?_) (fun h39 => ?_)
          ·
            refine CJ.skip ?_
            refine EJ.thenN (hK21 ?_)
            refine CJ.seq fun _ hK22 _ => ?_
            refine CJ.block ?_
            refine CJ.seq fun _ hK23 _ => ?_
            refine CJ.region ?_
            refine J.p (PR.move rfl) rfl ?_
            refine J.p (PR.assign rfl) rfl ?_
            refine J.nil ?_
            refine EJ.thenN (hK23 ?_)
            refine CJ.region ?_
            refine J.p (PR.move rfl) rfl ?_
            refine J.p (PR.idxA1 u88 sz3 rfl rfl rfl (by omega)) rfl ?_
            refine J.storeI rfl rfl sz3 (by simp; omega) At.z ?_
            refine J.nil ?_
            refine EJ.inN ?_
            refine EJ.thenN (hK22 ?_)
            refine CJ.region ?_
            refine J.p (PR.add rfl rfl (by first | exact nw _ (by omega) | rfl)) rfl ?_
            refine J.p (PR.move rfl) rfl ?_
            refine J.nil ?_
            refine EJ.thenN ?_
            exact hAg2 (k + 1) (by omega) (by omega) 8 rfl rfl ⟨rfl, trivial⟩ rfl (by simp only [behP_set (show k < 8 by omega)])
          ·
            obtain rfl : k = i + 1 := by omega
            refine CJ.exit ?_
            refine EJ.thenE ?_
            refine EJ.thenE ?_
            refine EJ.inE ?_
            refine EJ.thenN (hK18 ?_)
            refine CJ.seq fun _ hK24 _ => ?_
            refine CJ.region ?_
            refine J.p (PR.loadAll rfl (.s .z) (by simpa [*] using ag88)) rfl ?_
            refine J.alloc ze88 rfl fun g15 => ?_
            refine J.storeAll rfl rfl (by first | exact bytesC_one _ | exact intsC_one _ | exact Term.c_one _ | simp [Value.oneCell']) (by simpa [*] using sz88) (by simp [*]) At.z ?_
            refine J.nil ?_
            refine EJ.thenN (hK24 ?_)
            refine CJ.seq fun _ hK25 _ => ?_
            refine CJ.region ?_
            refine J.p (PR.move rfl) rfl ?_
            refine J.p (PR.move rfl) rfl ?_
            refine J.p (PR.sub rfl rfl (by first | exact nw _ (by omega) | rfl)) rfl ?_
            refine J.p (PR.idxA1 u88 sz3 rfl rfl rfl (by omega)) rfl ?_
            refine J.storeI rfl rfl sz3 (by simp; omega) At.z ?_
            refine J.nil ?_
            refine EJ.thenN (hK25 ?_)
            refine CJ.seq fun _ hK26 _ => ?_
            refine CJ.openR (Rs := [_, _, _, _, _, _, _]) 22 [[], [], [0, 1], [0, 1, 2], [], [4], [4, 5], [4, 5, 6], [], [8], [8, 9], [0, 1, 2, 3, 4, 5, 6, 7, 8, 9, 10], [], [12], [12, 13], [12, 13, 14], [], [], [16, 17], [16, 17, 18], [0, 1, 2, 3, 4, 5, 6, 7, 8, 9, 10, 11, 12, 13, 14, 15, 16, 17, 18, 19], [0, 1, 2, 3, 4, 5, 6, 7, 8, 9, 10, 11, 12, 13, 14, 15, 16, 17, 18, 19, 20]] [[], [22], [], [], [], [], [], [], [], [], [27], [2], [], [], [], [], [], [23], [], [], [11, 18], []] [[], [], [0], [], [], [], [], [], [], [], [], [], [], [], [], [], [], [], [16], [], [], []] rfl rfl (by kernel_rfl) ?_
            apply GJ.st1 1 rfl
            iterate 3 focus (intros; (conv => lhs; simp only [slotsZ, zlAt, vs0, resL, at2, eq_self, Nat.reduceEqDiff, reduceIte, Nat.reduceSub, Nat.reduceAdd, List.cons_append, List.nil_append]); all_goals rfl)
            ·
              intro gh X K zq zc zq2 zc2 zb zv hK
              refine J.makeMap pwE (Value.int .i64) pwOk rfl fun bm49 => ?_
              refine J.nilK ?_
              exact hK zq zc zq2 zc2 bm49 zv
            ·
              intro gh gh' h
              refine ⟨?_, ?_⟩ <;> rfl
            apply GJ.st0 2 rfl
            iterate 3 focus (intros; (conv => lhs; simp only [slotsZ, zlAt, vs0, resL, at2, eq_self, Nat.reduceEqDiff, reduceIte, Nat.reduceSub, Nat.reduceAdd, List.cons_append, List.nil_append]); all_goals rfl)
            ·
              intro gh X K zq zc zq2 zc2 zb zv hK
              refine J.p (PR.loadAll rfl At.z (by simpa using ag88)) rfl ?_
              refine J.nilK ?_
              exact hK zq zc zq2 zc2 zb zv
            ·
              intro gh gh' h
              rfl
            apply GJ.sn1 3 rfl
            iterate 3 focus (intros; (conv => lhs; simp only [slotsZ, zlAt, vs0, resL, at2, eq_self, Nat.reduceEqDiff, reduceIte, Nat.reduceSub, Nat.reduceAdd, List.cons_append, List.nil_append]); all_goals rfl)
            ·
              intro gh X K hK
              refine J.putOne pwK u108 rfl rfl rfl (pwOk_of hlp (by omega)) At.z ?_
              refine J.nilK ?_
              exact hK
            ·
              intro gh gh' h
              first | simp only [h 0 rfl] | rfl
            apply GJ.st0 4 rfl
            iterate 3 focus (intros; (conv => lhs; simp only [slotsZ, zlAt, vs0, resL, at2, eq_self, Nat.reduceEqDiff, reduceIte, Nat.reduceSub, Nat.reduceAdd, List.cons_append, List.nil_append]); all_goals rfl)
            ·
              intro gh X K zq zc zq2 zc2 zb zv hK
              refine J.p (PR.move rfl) rfl ?_
              refine J.nilK ?_
              exact hK zq zc zq2 zc2 zb zv
            ·
              intro gh gh' h
              first | simp only [h 0 rfl] | rfl
            apply GJ.st0 5 rfl
            iterate 3 focus (intros; (conv => lhs; simp only [slotsZ, zlAt, vs0, resL, at2, eq_self, Nat.reduceEqDiff, reduceIte, Nat.reduceSub, Nat.reduceAdd, List.cons_append, List.nil_append]); all_goals rfl)
            ·
              intro gh X K zq zc zq2 zc2 zb zv hK
              refine J.p (PR.move rfl) rfl ?_
              refine J.nilK ?_
              exact hK zq zc zq2 zc2 zb zv
            ·
              intro gh gh' h
              rfl
            apply GJ.st0 6 rfl
            iterate 3 focus (intros; (conv => lhs; simp only [slotsZ, zlAt, vs0, resL, at2, eq_self, Nat.reduceEqDiff, reduceIte, Nat.reduceSub, Nat.reduceAdd, List.cons_append, List.nil_append]); all_goals rfl)
            ·
              intro gh X K zq zc zq2 zc2 zb zv hK
              refine J.p (PR.nilCheck rfl) rfl ?_
              refine J.nilK ?_
              exact hK zq zc zq2 zc2 zb zv
            ·
              intro gh gh' h
              rfl
            apply GJ.st0 7 rfl
            iterate 3 focus (intros; (conv => lhs; simp only [slotsZ, zlAt, vs0, resL, at2, eq_self, Nat.reduceEqDiff, reduceIte, Nat.reduceSub, Nat.reduceAdd, List.cons_append, List.nil_append]); all_goals rfl)
            ·
              intro gh X K zq zc zq2 zc2 zb zv hK
              refine J.p (PR.fldA u44 rfl sz22 rfl) rfl ?_
              refine J.nilK ?_
              exact hK zq zc zq2 zc2 zb zv
            ·
              intro gh gh' h
              rfl
            apply GJ.st0 8 rfl
            iterate 3 focus (intros; (conv => lhs; simp only [slotsZ, zlAt, vs0, resL, at2, eq_self, Nat.reduceEqDiff, reduceIte, Nat.reduceSub, Nat.reduceAdd, List.cons_append, List.nil_append]); all_goals rfl)
            ·
              intro gh X K zq zc zq2 zc2 zb zv hK
              refine J.p (PR.loadH (q := some ⟨ba, 0, none⟩) (k := 0) rfl pad pl22) rfl ?_
              refine J.nilK ?_
              exact hK zq zc zq2 zc2 zb zv
            ·
              intro gh gh' h
              rfl
            apply GJ.st0 9 rfl
            iterate 3 focus (intros; (conv => lhs; simp only [slotsZ, zlAt, vs0, resL, at2, eq_self, Nat.reduceEqDiff, reduceIte, Nat.reduceSub, Nat.reduceAdd, List.cons_append, List.nil_append]); all_goals rfl)
            ·
              intro gh X K zq zc zq2 zc2 zb zv hK
              refine J.p (PR.move rfl) rfl ?_
              refine J.nilK ?_
              exact hK zq zc zq2 zc2 zb zv
            ·
              intro gh gh' h
              rfl
            apply GJ.st0 10 rfl
            iterate 3 focus (intros; (conv => lhs; simp only [slotsZ, zlAt, vs0, resL, at2, eq_self, Nat.reduceEqDiff, reduceIte, Nat.reduceSub, Nat.reduceAdd, List.cons_append, List.nil_append]); all_goals rfl)
            ·
              intro gh X K zq zc zq2 zc2 zb zv hK
              refine J.p (PR.idxA1 u115 sz108 rfl rfl rfl (by omega)) rfl ?_
              refine J.nilK ?_
              exact hK zq zc zq2 zc2 zb zv
            ·
              intro gh gh' h
              rfl
            apply GJ.st0 11 rfl
            iterate 3 focus (intros; (conv => lhs; simp only [slotsZ, zlAt, vs0, resL, at2, eq_self, Nat.reduceEqDiff, reduceIte, Nat.reduceSub, Nat.reduceAdd, List.cons_append, List.nil_append]); all_goals rfl)
            ·
              intro gh X K zq zc zq2 zc2 zb zv hK
              refine J.p (PR.load rfl At.z (imgK_get (by omega) hil) pl108) rfl ?_
              refine J.nilK ?_
              exact hK zq zc zq2 zc2 zb zv
            ·
              intro gh gh' h
              rfl
            apply GJ.st1 12 rfl
            iterate 3 focus (intros; (conv => lhs; simp only [slotsZ, zlAt, vs0, resL, at2, eq_self, Nat.reduceEqDiff, reduceIte, Nat.reduceSub, Nat.reduceAdd, List.cons_append, List.nil_append]); all_goals rfl)
            ·
              intro gh X K zq zc zq2 zc2 zb zv hK
              refine J.call fn82 rfl rfl fun w hH => hH.lend .z fun Hl1 hle1 hA1 hB1 hH => (times_c (omap_H hA1) (Sok.one hlp (by omega)) (had.le hle1) ((imgs_H hA6 hil).le hle1) (hf i hil).1 hn hd (by omega) hH).mono ?_
              rintro _ w ⟨bo59, rfl, hH⟩
              replace hH := hB1 _ _ hH
              refine ⟨_, rfl, fun a hF => J.of hF hH ?_⟩
              refine EJ.front .z ?_
              refine EJ.front (.s .z) ?_
              refine J.nilK ?_
              exact hK zq zc zq2 zc2 bo59 zv
            ·
              intro gh gh' h
              refine ⟨?_, ?_⟩ <;> (first | simp only [h 0 rfl] | rfl)
            apply GJ.st0 13 rfl
            iterate 3 focus (intros; (conv => lhs; simp only [slotsZ, zlAt, vs0, resL, at2, eq_self, Nat.reduceEqDiff, reduceIte, Nat.reduceSub, Nat.reduceAdd, List.cons_append, List.nil_append]); all_goals rfl)
            ·
              intro gh X K zq zc zq2 zc2 zb zv hK
              refine J.p (PR.move rfl) rfl ?_
              refine J.nilK ?_
              exact hK zq zc zq2 zc2 zb zv
            ·
              intro gh gh' h
              rfl
            apply GJ.st0 14 rfl
            iterate 3 focus (intros; (conv => lhs; simp only [slotsZ, zlAt, vs0, resL, at2, eq_self, Nat.reduceEqDiff, reduceIte, Nat.reduceSub, Nat.reduceAdd, List.cons_append, List.nil_append]); all_goals rfl)
            ·
              intro gh X K zq zc zq2 zc2 zb zv hK
              refine J.p (PR.nilCheck rfl) rfl ?_
              refine J.nilK ?_
              exact hK zq zc zq2 zc2 zb zv
            ·
              intro gh gh' h
              rfl
            apply GJ.st0 15 rfl
            iterate 3 focus (intros; (conv => lhs; simp only [slotsZ, zlAt, vs0, resL, at2, eq_self, Nat.reduceEqDiff, reduceIte, Nat.reduceSub, Nat.reduceAdd, List.cons_append, List.nil_append]); all_goals rfl)
            ·
              intro gh X K zq zc zq2 zc2 zb zv hK
              refine J.p (PR.fldA u44 rfl sz22 rfl) rfl ?_
              refine J.nilK ?_
              exact hK zq zc zq2 zc2 zb zv
            ·
              intro gh gh' h
              rfl
            apply GJ.st0 16 rfl
            iterate 3 focus (intros; (conv => lhs; simp only [slotsZ, zlAt, vs0, resL, at2, eq_self, Nat.reduceEqDiff, reduceIte, Nat.reduceSub, Nat.reduceAdd, List.cons_append, List.nil_append]); all_goals rfl)
            ·
              intro gh X K zq zc zq2 zc2 zb zv hK
              refine J.p (PR.loadH (q := some ⟨ba, 0, none⟩) (k := 0) rfl pad pl22) rfl ?_
              refine J.nilK ?_
              exact hK zq zc zq2 zc2 zb zv
            ·
              intro gh gh' h
              rfl
            apply GJ.st1 17 rfl
            iterate 3 focus (intros; (conv => lhs; simp only [slotsZ, zlAt, vs0, resL, at2, eq_self, Nat.reduceEqDiff, reduceIte, Nat.reduceSub, Nat.reduceAdd, List.cons_append, List.nil_append]); all_goals rfl)
            ·
              intro gh X K zq zc zq2 zc2 zb zv hK
              refine J.makeMap pwE (Value.int .i64) pwOk rfl fun bm64 => ?_
              refine J.nilK ?_
              exact hK zq zc zq2 zc2 bm64 zv
            ·
              intro gh gh' h
              refine ⟨?_, ?_⟩ <;> rfl
            apply GJ.st0 18 rfl
            iterate 3 focus (intros; (conv => lhs; simp only [slotsZ, zlAt, vs0, resL, at2, eq_self, Nat.reduceEqDiff, reduceIte, Nat.reduceSub, Nat.reduceAdd, List.cons_append, List.nil_append]); all_goals rfl)
            ·
              intro gh X K zq zc zq2 zc2 zb zv hK
              refine J.p (PR.loadAll rfl At.z (by simpa using ag88)) rfl ?_
              refine J.nilK ?_
              exact hK zq zc zq2 zc2 zb zv
            ·
              intro gh gh' h
              rfl
            apply GJ.sn1 19 rfl
            iterate 3 focus (intros; (conv => lhs; simp only [slotsZ, zlAt, vs0, resL, at2, eq_self, Nat.reduceEqDiff, reduceIte, Nat.reduceSub, Nat.reduceAdd, List.cons_append, List.nil_append]); all_goals rfl)
            ·
              intro gh X K hK
              refine J.putOne pwK u108 rfl rfl rfl (pwOk_of hbp (by omega)) At.z ?_
              refine J.nilK ?_
              exact hK
            ·
              intro gh gh' h
              first | simp only [h 16 rfl] | rfl
            apply GJ.st0 20 rfl
            iterate 3 focus (intros; (conv => lhs; simp only [slotsZ, zlAt, vs0, resL, at2, eq_self, Nat.reduceEqDiff, reduceIte, Nat.reduceSub, Nat.reduceAdd, List.cons_append, List.nil_append]); all_goals rfl)
            ·
              intro gh X K zq zc zq2 zc2 zb zv hK
              refine J.p (PR.move rfl) rfl ?_
              refine J.nilK ?_
              exact hK zq zc zq2 zc2 zb zv
            ·
              intro gh gh' h
              first | simp only [h 16 rfl] | rfl
            apply GJ.st1 21 rfl
            iterate 3 focus (intros; (conv => lhs; simp only [slotsZ, zlAt, vs0, resL, at2, eq_self, Nat.reduceEqDiff, reduceIte, Nat.reduceSub, Nat.reduceAdd, List.cons_append, List.nil_append]); all_goals rfl)
            ·
              intro gh X K zq zc zq2 zc2 zb zv hK
              refine J.call fn82 rfl rfl fun w hH => hH.lend .z fun Hl1 hle1 hA1 hB1 hH => hH.lend .z fun Hl2 hle2 hA2 hB2 hH => (times_c ((omap_H hA1).le hle2) ((Sok.one hlp (by omega)).times (hf i hil).1) ((had.le hle1).le hle2) (omap_H hA2) (Sok.one hbp (by omega)) hn hd (by omega) hH).mono ?_
              rintro _ w ⟨bo67, rfl, hH⟩
              replace hH := hB2 _ _ hH
              replace hH := hB1 _ _ hH
              refine ⟨_, rfl, fun a hF => J.of hF hH ?_⟩
              refine EJ.front (.s .z) ?_
              refine EJ.front (.s .z) ?_
              refine EJ.front (.s (.s .z)) ?_
              refine J.nilK ?_
              exact hK zq zc zq2 zc2 bo67 zv
            ·
              intro gh gh' h
              refine ⟨?_, ?_⟩ <;> (first | simp only [h 0 rfl, h 11 rfl, h 16 rfl] | rfl)
            apply GJ.st0 22 rfl
            iterate 3 focus (intros; (conv => lhs; simp only [slotsZ, zlAt, vs0, resL, at2, eq_self, Nat.reduceEqDiff, reduceIte, Nat.reduceSub, Nat.reduceAdd, List.cons_append, List.nil_append]); all_goals rfl)
            ·
              intro gh X K zq zc zq2 zc2 zb zv hK
              refine J.p (PR.assign rfl) rfl ?_
              refine J.nilK ?_
              exact hK zq zc zq2 zc2 zb zv
            ·
              intro gh gh' h
              first | simp only [h 0 rfl, h 11 rfl, h 16 rfl, h 20 rfl] | rfl
            apply GJ.close [0, 1, 2, 3, 4, 5, 6, 7, 8, 9, 10, 11, 12, 13, 14, 15, 16, 17, 18, 19, 20, 21] [1, 2, 3, 4, 5, 6, 7, 8, 9, 10, 11, 12, 13, 14, 15, 17, 18, 19, 20, 21, 22, 23, 24, 25, 26, 27, 28] foll0 rfl rfl rfl (by rfl)
            iterate 2 focus (intros; (conv => lhs; simp only [slotsZ, zlAt, vs0, resL, at2, eq_self, Nat.reduceEqDiff, reduceIte, Nat.reduceSub, Nat.reduceAdd, List.cons_append, List.nil_append]); all_goals rfl)
            intro gh
            generalize (gh 0).b = bm49
            generalize (gh 11).b = bo59
            generalize (gh 16).b = bm64
            generalize (gh 20).b = bo67
            clear gh
            refine EJ.thenN (hK26 ?_)
            refine CJ.region ?_
            refine J.p (PR.move rfl) rfl ?_
            refine J.p (PR.move rfl) rfl ?_
            refine J.p (PR.move rfl) rfl ?_
            refine J.p (PR.move rfl) rfl ?_
            refine J.p (PR.mul rfl rfl (by first | exact nw _ (by omega) | rfl)) rfl ?_
            refine J.p (PR.move rfl) rfl ?_
            refine J.p (PR.mul rfl rfl (by first | exact nw _ (by omega) | rfl)) rfl ?_
            refine J.call fn84 rfl rfl fun w hH => (field_c (by omega) hH).mono ?_
            rintro _ w ⟨rfl, hH⟩
            refine ⟨_, rfl, fun a hF => J.of hF hH ?_⟩
            refine J.call fn83 rfl rfl fun w hH => hH.lend (.s (.s (.s .z))) fun Hl1 hle1 hA1 hB1 hH => (addAll_c k1 (omap_H hA1) (((Sok.one hlp (by omega)).times (hf i hil).1).times (Sok.one hbp (by omega))) (by omega) (by omega) (by omega) (hH.front (.s (.s (.s (.s (.s (.s (.s (.s (.s .z))))))))))).mono ?_
            rintro _ w ⟨rfl, hH⟩
            replace hH := hB1 _ _ hH
            refine ⟨_, rfl, fun a hF => J.of hF hH ?_⟩
            refine J.nil ?_
            refine EJ.thenN ?_
            refine EJ.drop .z ?_
            refine EJ.drop (.s .z) ?_
            refine EJ.drop (.s .z) ?_
            refine EJ.drop (.s .z) ?_
            refine EJ.drop (.s .z) ?_
            refine EJ.drop (.s .z) ?_
            refine EJ.front .z ?_
            refine EJ.front (.s (.s (.s (.s .z)))) ?_
            refine EJ.front (.s (.s (.s (.s .z)))) ?_
            refine EJ.front (.s (.s (.s (.s .z)))) ?_
            refine EJ.front (.s (.s (.s (.s .z)))) ?_
            exact hMt1 () trivial 44 rfl rfl ⟨rfl, ⟨rfl, trivial⟩⟩ rfl (by rw [← acc_dP h34]; rfl)
        ·
          refine CJ.skip ?_
          refine EJ.thenN ?_
          exact hMt1 () trivial 2 rfl rfl ⟨rfl, ⟨rfl, trivial⟩⟩ rfl (by simp only [acc_dN (show ¬ 0 < nx22.1.getD i 0 from fun h => h34 h)])
      ·
        rintro _ _
        refine CJ.seq fun _ hK27 _ => ?_
        refine CJ.region ?_
        refine J.p (PR.move rfl) rfl ?_
        refine J.p (PR.move rfl) rfl ?_
        refine J.p (PR.idxA1 u88 sz3 rfl rfl rfl (by omega)) rfl ?_
        refine J.storeI rfl rfl sz3 (by simp; omega) At.z ?_
        refine J.nil ?_
        refine EJ.thenN (hK27 ?_)
        refine CJ.seq fun _ hK28 _ => ?_
        refine CJ.region ?_
        refine J.p (PR.move rfl) rfl ?_
        refine J.p (PR.move rfl) rfl ?_
        refine J.p (PR.nilCheck rfl) rfl ?_
        refine J.p (PR.fldA u44 rfl sz22 rfl) rfl ?_
        refine J.p (PR.loadH (q := some ⟨ba, 0, none⟩) (k := 0) rfl pad pl22) rfl ?_
        refine J.p (PR.lenSlice u22 rfl rfl) rfl ?_
        refine J.p (PR.lss rfl rfl) rfl ?_
        refine J.p (PR.move rfl) rfl ?_
        refine J.splitB (jd := 87) rfl (fun h87 => ?_) (fun h87 => ?_)
        ·
          try have h87p := of_decide_eq_true h87
          refine J.gy (PR.move rfl) rfl rfl rfl h87 ?_
          refine J.gy (PR.nilCheck rfl) rfl rfl rfl h87 ?_
          refine J.gy (PR.fldA u44 rfl sz22 rfl) rfl rfl rfl h87 ?_
          refine J.gy (PR.loadH (q := some ⟨ba, 0, none⟩) (k := 0) rfl pad pl22) rfl rfl rfl h87 ?_
          refine J.gy (PR.move rfl) rfl rfl rfl h87 ?_
          refine J.gy (PR.idx1 u22 sz2 rfl rfl rfl (by omega) had.sm) rfl rfl rfl h87 ?_
          refine J.gy (PR.loadH rfl (had _ (by omega)) pl2) rfl rfl rfl h87 ?_
          refine J.gy (PR.rem rfl rfl (by decide) rfl) rfl rfl rfl h87 ?_
          refine J.gy (PR.eql rfl rfl) rfl rfl rfl h87 ?_
          refine J.p (PR.pickT rfl h87 rfl) rfl ?_
          refine J.p (PR.move rfl) rfl ?_
          refine J.splitB (jd := 98) rfl (fun h98 => ?_) (fun h98 => ?_)
          ·
            try have h98p := of_decide_eq_true h98
            refine J.gy (PR.move rfl) rfl rfl rfl h98 ?_
            refine J.gy (PR.rem rfl rfl (by decide) rfl) rfl rfl rfl h98 ?_
            refine J.gy (PR.eql rfl rfl) rfl rfl rfl h98 ?_
            refine J.p (PR.pickT rfl h98 rfl) rfl ?_
            refine J.nil ?_
            refine EJ.thenN (hK28 ?_)
            refine CJ.condD rfl (fun h102 => ?_) (fun h102 => ?_)
            ·
              refine CJ.region ?_
              refine J.p (PR.move rfl) rfl ?_
              refine J.p (PR.neg rfl (by first | exact nw _ (by omega) | rfl)) rfl ?_
              refine J.p (PR.assign rfl) rfl ?_
              refine J.nil ?_
              refine EJ.inN ?_
              refine EJ.thenN (hK14 ?_)
              refine CJ.region ?_
              refine J.p (PR.add rfl rfl (by first | exact nw _ (by omega) | rfl)) rfl ?_
              refine J.p (PR.move rfl) rfl ?_
              refine J.nil ?_
              refine EJ.thenN ?_
              exact hAg1 (i + 1) (by omega) (by omega) 40 rfl rfl ⟨rfl, ⟨(vi (dsg_yes h87p h98p h102)), trivial⟩⟩ rfl (by simp only [aheadP_set (show i < 8 by omega)])
            ·
              refine CJ.skip ?_
              refine EJ.inN ?_
              refine EJ.thenN (hK14 ?_)
              refine CJ.region ?_
              refine J.p (PR.add rfl rfl (by first | exact nw _ (by omega) | rfl)) rfl ?_
              refine J.p (PR.move rfl) rfl ?_
              refine J.nil ?_
              refine EJ.thenN ?_
              exact hAg1 (i + 1) (by omega) (by omega) 37 rfl rfl ⟨rfl, ⟨(vi (dsg_no (fun h => h102 h.2.2))), trivial⟩⟩ rfl (by simp only [aheadP_set (show i < 8 by omega)])
          ·
            try have h98p := of_decide_eq_false h98
            refine J.gn rfl rfl rfl h98 ?_
            refine J.gn rfl rfl rfl h98 ?_
            refine J.gn rfl rfl rfl h98 ?_
            refine J.p (PR.pickF rfl h98 rfl) rfl ?_
            refine J.nil ?_
            refine EJ.thenN (hK28 ?_)
            refine CJ.condF rfl ?_
            refine CJ.skip ?_
            refine EJ.inN ?_
            refine EJ.thenN (hK14 ?_)
            refine CJ.region ?_
            refine J.p (PR.add rfl rfl (by first | exact nw _ (by omega) | rfl)) rfl ?_
            refine J.p (PR.move rfl) rfl ?_
            refine J.nil ?_
            refine EJ.thenN ?_
            exact hAg1 (i + 1) (by omega) (by omega) 37 rfl rfl ⟨rfl, ⟨(vi (dsg_no (fun h => h98p h.2.1))), trivial⟩⟩ rfl (by simp only [aheadP_set (show i < 8 by omega)])
        ·
          try have h87p := of_decide_eq_false h87
          refine J.gn rfl rfl rfl h87 ?_
          refine J.gn rfl rfl rfl h87 ?_
          refine J.gn rfl rfl rfl h87 ?_
          refine J.gn rfl rfl rfl h87 ?_
          refine J.gn rfl rfl rfl h87 ?_
          refine J.gn rfl rfl rfl h87 ?_
          refine J.gn rfl rfl rfl h87 ?_
          refine J.gn rfl rfl rfl h87 ?_
          refine J.gn rfl rfl rfl h87 ?_
          refine J.p (PR.pickF rfl h87 rfl) rfl ?_
          refine J.p (PR.move rfl) rfl ?_
          refine J.gn rfl rfl rfl rfl ?_
          refine J.gn rfl rfl rfl rfl ?_
          refine J.gn rfl rfl rfl rfl ?_
          refine J.p (PR.pickF rfl rfl rfl) rfl ?_
          refine J.nil ?_
          refine EJ.thenN (hK28 ?_)
          refine CJ.condF rfl ?_
          refine CJ.skip ?_
          refine EJ.inN ?_
          refine EJ.thenN (hK14 ?_)
          refine CJ.region ?_
          refine J.p (PR.add rfl rfl (by first | exact nw _ (by omega) | rfl)) rfl ?_
          refine J.p (PR.move rfl) rfl ?_
          refine J.nil ?_
          refine EJ.thenN ?_
          exact hAg1 (i + 1) (by omega) (by omega) 37 rfl rfl ⟨rfl, ⟨(vi (dsg_no (fun h => h87p h.1))), trivial⟩⟩ rfl (by simp only [aheadP_set (show i < 8 by omega)])
    ·
      refine CJ.exit ?_
      refine EJ.thenE ?_
      refine EJ.thenE ?_
      refine EJ.inE ?_
      refine EJ.inN ?_
      refine EJ.thenN ?_
      refine EJ.drop .z ?_
      refine EJ.drop .z ?_
      exact hAg0 (some nx22, la22 ++ lb22, dn ++ dLk ad af nx22 8) ⟨by rw [List.append_assoc]; exact perm_to hI.1 dAll_mid, fun x hx => hI.2 x (by simp at hx ⊢; rcases hx with h | h <;> simp [h])⟩ (by simp) 15 rfl rfl trivial rfl (by have h8 : i = 8 := (by omega); subst h8; rfl)
end Go.Proofs.YtbjhllmcnfncdaaDoor.G
namespace Go.Proofs.YtbjhllmcnfncdaaDoor.G
open Go Go.RowKit
namespace Xj
theorem u2 : Tryd.prog.underlying 2 = some (TypeDesc.int .i64) := by kernel_rfl
theorem u22 : Tryd.prog.underlying 22 = some (TypeDesc.slice 2) := by kernel_rfl
theorem u5 : Tryd.prog.underlying 5 = some (TypeDesc.int .u8) := by kernel_rfl
theorem u64 : Tryd.prog.underlying 64 = some (TypeDesc.array 8 5) := by kernel_rfl
theorem sz2 : Size Tryd.prog 2 1 := by unfold Size; kernel_rfl
theorem sz5 : Size Tryd.prog 5 1 := by unfold Size; kernel_rfl
theorem sz64 : Size Tryd.prog 64 8 := by unfold Size; kernel_rfl
theorem ze64 : Zero Tryd.prog 64 [.int .u8 0, .int .u8 0, .int .u8 0, .int .u8 0, .int .u8 0, .int .u8 0, .int .u8 0, .int .u8 0] := by unfold Zero; kernel_rfl
theorem bz64 : ∀ w, (Instr.build 64 #[]).run Tryd.prog w = .ok (.agg [.int .u8 0, .int .u8 0, .int .u8 0, .int .u8 0, .int .u8 0, .int .u8 0, .int .u8 0, .int .u8 0].toArray) w := fun _ => by kernel_rfl
theorem pl2 : Plain Tryd.prog 2 := ⟨_, u2, rfl⟩
theorem pl5 : Plain Tryd.prog 5 := ⟨_, u5, rfl⟩
theorem ag64 : Agg Tryd.prog 64 8 := ⟨_, u64, rfl, by kernel_rfl⟩
theorem foll0 : Tryd.prog.follows .mixedOrders = true := by kernel_rfl
end Xj
open Xj
set_option maxRecDepth 10000 in
theorem l01Mod_c {B : World} {H0 H : HP} {L : List SA} {w : World} {x : Int}  (hx : -1000000000000 ≤ x ∧ x ≤ 1000000000000) (hH : Hp B H0 H L w) :
    Calls Tryd.prog 69 [.int .i64 x].toArray w fun e w' => e = .returned (.int .i64 (fld x)) ∧ Hp B H0 H L w' := by
  refine CJ.enter Tryd.func69 rfl 7 rfl rfl [(0, .int .i64 x)] rfl hH ?_
  clear hH
  have hb := tmod_bd x
  refine CJ.seq fun _ hK1 _ => ?_
  refine CJ.region ?_
  refine J.p (PR.assign rfl) rfl ?_
  refine J.nil ?_
  refine EJ.thenN (hK1 ?_)
  refine CJ.seq fun _ hK2 _ => ?_
  refine CJ.region ?_
  refine J.p (PR.move rfl) rfl ?_
  refine J.p (PR.rem rfl rfl (by decide) rfl) rfl ?_
  refine J.p (PR.add rfl rfl (by first | exact nw _ (by omega) | rfl)) rfl ?_
  refine J.p (PR.rem rfl rfl (by decide) rfl) rfl ?_
  refine J.p (PR.assign rfl) rfl ?_
  refine J.nil ?_
  refine EJ.thenN (hK2 ?_)
  refine CJ.ret ?_
  refine EJ.ret1 rfl (Res.tmp rfl) fun w hH => ?_
  exact ⟨rfl, hH⟩
theorem u8_id {x : Int} (h : 0 ≤ x ∧ x ≤ 255) : IntKind.u8.wrap x = x := by
  have := Int.emod_emod_of_dvd x (show (256 : Int) ∣ 256 from ⟨1, rfl⟩)
  simp [IntKind.wrap, IntKind.bits, IntKind.signed]
  omega
structure Ex (ds p : Pw) : Prop where
  out : ∀ i, ds.length ≤ i → p.getD i 0 = 0
  odd : ∀ i, i < ds.length → (ds.getD i 0).tmod 2 ≠ 0 → p.getD i 0 ≤ 1
def sgK (x : Int) : Int := if x.tmod 2 = 1 then -1 else 1
theorem sgK_flip {a : Int} (h : 0 ≤ a) : 0 - sgK a = sgK (a + 1) := by
  unfold sgK
  rw [Int.tmod_eq_emod_of_nonneg h, Int.tmod_eq_emod_of_nonneg (by omega)]
  split <;> split <;> omega
theorem sgK_bd (a : Int) : -1 ≤ sgK a ∧ sgK a ≤ 1 := by unfold sgK; split <;> omega
def addK (p q : Pw) (k : Nat) : Pw := (List.range 8).map fun i => if i < k then p.getD i 0 + q.getD i 0 else 0
@[simp] theorem addK_len (p q : Pw) (k : Nat) : (addK p q k).length = 8 := by simp [addK]
theorem addK_get {p q : Pw} {k i : Nat} (h : i < 8) : (addK p q k).getD i 0 = if i < k then p.getD i 0 + q.getD i 0 else 0 := by simp [addK, List.getD_eq_getElem?_getD, h]
theorem addK_zero (p q : Pw) : addK p q 0 = List.replicate 8 0 := list8 (by simp) (by simp) fun j hj => by
  rw [addK_get hj, if_neg (by omega), List.getD_eq_getElem?_getD, List.getElem?_replicate, if_pos hj]
  rfl
theorem addK_set {p q : Pw} {k : Nat} (hk : k < 8) : (addK p q k).set k (p.getD k 0 + q.getD k 0) = addK p q (k + 1) := list8 (by simp) (by simp) fun j hj => by
  rw [getD_set8, addK_get hj, addK_get hj]
  by_cases e : k = j
  · subst e
    rw [if_pos ⟨rfl, by simpa using hk⟩, if_pos (by omega)]
  · rw [if_neg fun h => e h.1]
    by_cases h : j < k
    · rw [if_pos h, if_pos (by omega)]
    · rw [if_neg h, if_neg (by omega)]
theorem addK_end {ds p q : Pw} (hp : p.length = 8) (hq : q.length = 8) (h1 : Ex ds p) (h2 : Ex ds q) : addK p q ds.length = addp p q := list8 (by simp) (by simp) fun j hj => by
  rw [addK_get hj, addp_get hp hq]
  split
  · rfl
  · rw [h1.out j (by omega), h2.out j (by omega)]
    rfl
theorem oin_one {ds p : Pw} {i r : Nat} (hd : ∀ j, 0 ≤ ds.getD j 0 ∧ ds.getD j 0 ≤ 12) (h : (ds.getD (i + 1 + r) 0).tmod 2 ≠ 0) (hm : p.getD (i + 1 + r) 0 = 1) : oin ds p i (r + 1) = oin ds p i r + 1 := by
  simp only [oin]
  rw [hm]
  rcases deg2 hd (i + 1 + r) with h' | h' <;> omega
theorem oin_nil {ds p : Pw} {i r : Nat} (h : (ds.getD (i + 1 + r) 0).tmod 2 = 0 ∨ p.getD (i + 1 + r) 0 = 0) : oin ds p i (r + 1) = oin ds p i r := by
  simp only [oin]
  rcases h with h | h <;> rw [h]
  · rw [Int.zero_mul]; omega
  · rw [Int.mul_zero]; omega
theorem jn_none {ds m k : Pw} {i r : Nat} (h2 : k.getD i 0 ≤ 1) (h0 : 0 ≤ k.getD i 0) (hr : r = 0 ∨ k.getD i 0 = 1) (h : ¬ k.getD i 0 = 1) : sgK (oddTo ds m k i + oin ds m i r) = sgK (oddTo ds m k (i + 1)) := by
  have e : r = 0 := hr.resolve_right h
  subst e
  rw [← odd_skip (fun h' => by omega)]
  simp [oin]
theorem jn_end {ds m k : Pw} {i r : Nat} (h33 : ¬ (ds.getD i 0).tmod 2 = 0) (h2 : k.getD i 0 ≤ 1) (h0 : 0 ≤ k.getD i 0) (hr : r = 0 ∨ k.getD i 0 = 1) (h : r = ds.length - (i + 1)) : sgK (oddTo ds m k i + oin ds m i r) = sgK (oddTo ds m k (i + 1)) := by
  by_cases e : k.getD i 0 = 1
  · rw [odd_take ⟨h33, by omega⟩ h]
  · exact jn_none h2 h0 hr e
theorem hit_no {ds p q : Pw} {k : Nat} (hp : 0 ≤ p.getD k 0) (hq : 0 ≤ q.getD k 0) (h : ¬ p.getD k 0 + q.getD k 0 > 1) : hitAt ds p q k = false := by
  by_cases e : p.getD k 0 > 0
  · exact hit_q (by omega)
  · exact hit_p e
set_option maxHeartbeats 4000000 in
set_option maxRecDepth 10000 in
theorem l01Joined_c {B : World} {H0 H : HP} {L : List SA} {w : World} {qds : Option Addr} {cds : Nat} {ds : List Int} {m : List Int} {k : List Int}  (hds : Ints H qds ds) (hm : Mono m) (hk : Mono k) (hn : ds.length ≤ 8) (hd : ∀ j, 0 ≤ ds.getD j 0 ∧ ds.getD j 0 ≤ 12) (h1 : Ex ds m) (h2 : Ex ds k) (hb : ∀ i, m.getD i 0 + k.getD i 0 ≤ 255) (hH : Hp B H0 H L w) :
    Calls Tryd.prog 91 [.slice qds ds.length cds, .agg (bytesC m).toArray, .agg (bytesC k).toArray].toArray w fun e w' => e = .returned (.tuple #[.agg (bytesC (prodP ds m k)).toArray, .int .i64 (sgn ds m k)]) ∧ Hp B H0 H L w' := by
  refine CJ.enter Tryd.func91 rfl 69 rfl rfl [(0, .slice qds ds.length cds), (1, .agg (bytesC m).toArray), (2, .agg (bytesC k).toArray)] rfl hH ?_
  have hml := hm.len
  have hkl := hk.len
  clear hH
  refine CJ.seq fun _ hK1 _ => ?_
  refine CJ.region ?_
  refine J.box rfl rfl rfl fun g4 => ?_
  refine J.box rfl rfl rfl fun g5 => ?_
  refine J.alloc ze64 rfl fun g6 => ?_
  refine J.p (PR.assign rfl) rfl ?_
  refine J.nil ?_
  refine EJ.thenN (hK1 ?_)
  refine CJ.seq fun _ hK2 _ => ?_
  refine CJ.region ?_
  refine J.p (PR.buildZ bz64) rfl ?_
  refine J.alloc ze64 rfl fun g8 => ?_
  refine J.storeAll rfl rfl (by first | exact bytesC_one _ | exact intsC_one _ | exact Term.c_one _ | simp [Value.oneCell']) (by simpa [*] using sz64) (by simp [*]) At.z ?_
  refine J.p (PR.assign rfl) rfl ?_
  refine J.nil ?_
  refine EJ.thenN (hK2 ?_)
  refine CJ.seq fun _ hK3 _ => ?_
  refine CJ.seq fun _ hK4 _ => ?_
  refine CJ.region ?_
  refine J.p (PR.assign rfl) rfl ?_
  refine J.nil ?_
  refine EJ.thenN (hK4 ?_)
  refine CJ.block ?_
  refine CJ.loopU (σ := Nat) (fun (i : Nat) => [(10, .int .i64 (i : Int)), (9, .int .i64 (sgK (oddTo ds m k i)))]) (fun (i : Nat) => H) (fun (i : Nat) => obj g8 (.cells (bytesC (addK m k i)).toArray 64 (0, 0)) :: obj g6 (.cells (bytesC (List.replicate 8 0)).toArray 64 (0, 0)) :: obj g5 (.cells (bytesC k).toArray 64 (0, 0)) :: obj g4 (.cells (bytesC m).toArray 64 (0, 0)) :: L) (fun (i : Nat) => i ≤ ds.length ∧ ∀ j, j < i → hitAt ds m k j = false) (fun (i : Nat) => ds.length - i) 0 ⟨by omega, fun j hj => by omega⟩ ⟨rfl, ⟨rfl, trivial⟩⟩ rfl (by rw [addK_zero]; rfl) ?_
  rintro i ⟨hi, hh⟩ _ hAg0
  have mb := hm.bd i
  have kb := hk.bd i
  have sb := hb i
  have gi : i < ds.length → ((addK m k i).set i (m.getD i 0 + k.getD i 0)).getD i 0 = m.getD i 0 + k.getD i 0 := fun h => by rw [getD_set8, if_pos ⟨rfl, by simp; omega⟩]
  have ob := oddTo_bd hn hd hm.bd (q := k) i
  refine CJ.seq fun _ hK5 _ => ?_
  refine CJ.seq fun _ hK6 _ => ?_
  refine CJ.region ?_
  refine J.p (PR.move rfl) rfl ?_
  refine J.p (PR.move rfl) rfl ?_
  refine J.p (PR.lenSlice u22 rfl rfl) rfl ?_
  refine J.p (PR.lss rfl rfl) rfl ?_
  refine J.nil ?_
  refine EJ.thenN (hK6 ?_)
  refine CJ.condD rfl (fun hc16 => ?_) (fun hc16 => ?_)
  ·
    refine CJ.skip ?_
    refine EJ.thenN (hK5 ?_)
    refine CJ.seq fun _ hK7 _ => ?_
    refine CJ.block ?_
    refine CJ.seq fun _ hK8 _ => ?_
    refine CJ.head [[], [], [1], [2], [], [4], [5], [3, 6]] (by kernel_rfl) ?_
    refine HJ.op (fun gh => PR.move rfl) ?_
    refine HJ.op (fun gh => PR.move rfl) ?_
    refine HJ.op (fun gh => PR.idxA1 u64 sz5 rfl rfl rfl (by omega)) ?_
    refine HJ.op (fun gh => PR.load rfl (.s (.s (.s .z))) (by first | exact bytesC_get (by simp [*]; omega) | exact intsC_get (by simp [*]; omega)) pl5) ?_
    refine HJ.op (fun gh => PR.move rfl) ?_
    refine HJ.op (fun gh => PR.idxA1 u64 sz5 rfl rfl rfl (by omega)) ?_
    refine HJ.op (fun gh => PR.load rfl (.s (.s .z)) (by first | exact bytesC_get (by simp [*]; omega) | exact intsC_get (by simp [*]; omega)) pl5) ?_
    refine HJ.op (fun gh => PR.add rfl rfl (u8_id (by omega))) ?_
    refine HJ.close 8 2 foll0 (by kernel_rfl) rfl rfl fun gh => ?_
    refine J.conv (us' := (19, _) :: (20, _) :: (21, _) :: (22, _) :: (23, _) :: (24, _) :: (25, _) :: (26, _) :: _) (L' := _) rfl rfl ?_
    refine J.p (PR.idxA1 u64 sz5 rfl rfl rfl (by omega)) rfl ?_
    refine J.storeB rfl rfl sz5 (by simp; omega) At.z ?_
    refine J.nil ?_
    refine EJ.still ?_
    refine JS.nil ?_
    refine EJ.thenN (hK8 ?_)
    refine CJ.seq fun _ hK9 _ => ?_
    refine CJ.seq fun _ hK10 _ => ?_
    refine CJ.region ?_
    refine J.p (PR.move rfl) rfl ?_
    refine J.p (PR.move rfl) rfl ?_
    refine J.p (PR.idx1 u22 sz2 rfl rfl rfl (by omega) hds.sm) rfl ?_
    refine J.p (PR.loadH rfl (hds _ (by omega)) pl2) rfl ?_
    refine J.p (PR.rem rfl rfl (by decide) rfl) rfl ?_
    refine J.p (PR.eql rfl rfl) rfl ?_
    refine J.nil ?_
    refine EJ.thenN (hK10 ?_)
    refine CJ.condD rfl (fun h33 => ?_) (fun h33 => ?_)
    ·
      refine CJ.exit ?_
      refine EJ.thenE ?_
      refine EJ.inE ?_
      refine EJ.thenN (hK7 ?_)
      refine CJ.region ?_
      refine J.p (PR.move rfl) rfl ?_
      refine J.p (PR.add rfl rfl (by first | exact nw _ (by omega) | rfl)) rfl ?_
      refine J.p (PR.assign rfl) rfl ?_
      refine J.nil ?_
      refine EJ.thenN ?_
      exact hAg0 (i + 1) ⟨by omega, upto hh (hit_even h33)⟩ (by omega) 24 rfl rfl ⟨rfl, ⟨(vi (by rw [odd_skip (fun h => h.1 h33)])), trivial⟩⟩ rfl (by simp only [addK_set (show i < 8 by omega)])
    ·
      refine CJ.skip ?_
      refine EJ.thenN (hK9 ?_)
      refine CJ.seq fun _ hK11 _ => ?_
      refine CJ.seq fun _ hK12 _ => ?_
      refine CJ.region ?_
      refine J.p (PR.move rfl) rfl ?_
      refine J.p (PR.idxA1 u64 sz5 rfl rfl rfl (by omega)) rfl ?_
      refine J.p (PR.load rfl At.z ((bytesC_get (by simp; omega)).trans (congrArg (fun x => some (Value.int .u8 x)) (gi (by omega)))) pl5) rfl ?_
      refine J.p (PR.gtr rfl rfl) rfl ?_
      refine J.nil ?_
      refine EJ.thenN (hK12 ?_)
      refine CJ.condD rfl (fun h37 => ?_) (fun h37 => ?_)
      ·
        refine CJ.seq fun _ hK13 _ => ?_
        refine CJ.region ?_
        refine J.p (PR.buildZ bz64) rfl ?_
        refine J.storeAll rfl rfl (by first | exact bytesC_one _ | exact intsC_one _ | exact Term.c_one _ | simp [Value.oneCell']) (by simpa [*] using sz64) (by simp [*]) (.s .z) ?_
        refine J.p (PR.assign rfl) rfl ?_
        refine J.nil ?_
        refine EJ.thenN (hK13 ?_)
        refine CJ.ret ?_
        refine EJ.thenR ?_
        refine EJ.inR ?_
        refine EJ.thenR ?_
        refine EJ.thenR ?_
        refine EJ.inR ?_
        refine EJ.thenR ?_
        refine EJ.ret2 rfl (Res.agg rfl (.s .z) (by simpa [*] using ag64)) (Res.tmp rfl) fun w hH => ?_
        replace hH := hH.tail
        replace hH := hH.tail
        replace hH := hH.tail
        replace hH := hH.tail
        obtain ⟨e1, e2⟩ := sgn_hit (by omega) (hit_yes (p := m) (q := k) (ds := ds) (k := i) h33 (by have := h1.odd i (by omega) h33; have := h2.odd i (by omega) h33; omega) (by have := h1.odd i (by omega) h33; have := h2.odd i (by omega) h33; omega))
        rw [e1, e2]
        exact ⟨rfl, hH⟩
      ·
        refine CJ.skip ?_
        refine EJ.thenN (hK11 ?_)
        refine CJ.seq fun _ hK14 _ => ?_
        refine CJ.region ?_
        refine J.p (PR.move rfl) rfl ?_
        refine J.p (PR.add rfl rfl (by first | exact nw _ (by omega) | rfl)) rfl ?_
        refine J.p (PR.assign rfl) rfl ?_
        refine J.nil ?_
        refine EJ.thenN (hK14 ?_)
        refine CJ.block ?_
        refine CJ.loopU (σ := Nat) (fun (r : Nat) => [(11, .int .i64 ((i + 1 + r : Nat) : Int)), (9, .int .i64 (sgK (oddTo ds m k i + oin ds m i r)))]) (fun (r : Nat) => H) (fun (r : Nat) => obj g8 (.cells (bytesC (addK m k (i + 1))).toArray 64 (0, 0)) :: obj g6 (.cells (bytesC (List.replicate 8 0)).toArray 64 (0, 0)) :: obj g5 (.cells (bytesC k).toArray 64 (0, 0)) :: obj g4 (.cells (bytesC m).toArray 64 (0, 0)) :: L) (fun (r : Nat) => i + 1 + r ≤ ds.length ∧ (r = 0 ∨ k.getD i 0 = 1)) (fun (r : Nat) => ds.length - (i + 1 + r)) 0 ⟨by omega, .inl rfl⟩ ⟨(vi (by omega)), ⟨(vi (by simp [oin])), trivial⟩⟩ rfl (by simp only [addK_set (show i < 8 by omega)]) ?_
        rintro r ⟨hr, hk1⟩ _ hAg1
        have m2 := hm.bd (i + 1 + r)
        have ib := oin_bd hd hm.bd i r
        have s2 := sgK_bd (oddTo ds m k i + oin ds m i r)
        have o9 := h1.odd (i + 1 + r)
        refine CJ.seq fun _ hK15 _ => ?_
        refine CJ.seq fun _ hK16 _ => ?_
        refine CJ.region ?_
        refine J.p (PR.move rfl) rfl ?_
        refine J.p (PR.move rfl) rfl ?_
        refine J.p (PR.lenSlice u22 rfl rfl) rfl ?_
        refine J.p (PR.lss rfl rfl) rfl ?_
        refine J.p (PR.move rfl) rfl ?_
        refine J.splitB (jd := 45) rfl (fun h45 => ?_) (fun h45 => ?_)
        ·
          try have h45p := of_decide_eq_true h45
          refine J.gy (PR.move rfl) rfl rfl rfl h45 ?_
          refine J.gy (PR.idxA1 u64 sz5 rfl rfl rfl (by omega)) rfl rfl rfl h45 ?_
          refine J.gy (PR.load rfl (.s (.s .z)) (by first | exact bytesC_get (by simp [*]; omega) | exact intsC_get (by simp [*]; omega)) pl5) rfl rfl rfl h45 ?_
          refine J.gy (PR.eql rfl rfl) rfl rfl rfl h45 ?_
          refine J.p (PR.pickT rfl h45 rfl) rfl ?_
          refine J.nil ?_
          refine EJ.thenN (hK16 ?_)
          refine CJ.condD rfl (fun h50 => ?_) (fun h50 => ?_)
          ·
            refine CJ.skip ?_
            refine EJ.thenN (hK15 ?_)
            refine CJ.seq fun _ hK17 _ => ?_
            refine CJ.block ?_
            refine CJ.seq fun _ hK18 _ => ?_
            refine CJ.region ?_
            refine J.p (PR.move rfl) rfl ?_
            refine J.p (PR.move rfl) rfl ?_
            refine J.p (PR.idx1 u22 sz2 rfl rfl rfl (by omega) hds.sm) rfl ?_
            refine J.p (PR.loadH rfl (hds _ (by omega)) pl2) rfl ?_
            refine J.p (PR.rem rfl rfl (by decide) rfl) rfl ?_
            refine J.p (PR.neq rfl rfl) rfl ?_
            refine J.p (PR.move rfl) rfl ?_
            refine J.splitB (jd := 59) rfl (fun h59 => ?_) (fun h59 => ?_)
            ·
              try have h59p := of_decide_eq_true h59
              refine J.gy (PR.move rfl) rfl rfl rfl h59 ?_
              refine J.gy (PR.idxA1 u64 sz5 rfl rfl rfl (by omega)) rfl rfl rfl h59 ?_
              refine J.gy (PR.load rfl (.s (.s (.s .z))) (by first | exact bytesC_get (by simp [*]; omega) | exact intsC_get (by simp [*]; omega)) pl5) rfl rfl rfl h59 ?_
              refine J.gy (PR.eql rfl rfl) rfl rfl rfl h59 ?_
              refine J.p (PR.pickT rfl h59 rfl) rfl ?_
              refine J.nil ?_
              refine EJ.thenN (hK18 ?_)
              refine CJ.condD rfl (fun h64 => ?_) (fun h64 => ?_)
              ·
                refine CJ.region ?_
                refine J.p (PR.move rfl) rfl ?_
                refine J.p (PR.neg rfl (by first | exact nw _ (by omega) | rfl)) rfl ?_
                refine J.p (PR.assign rfl) rfl ?_
                refine J.nil ?_
                refine EJ.inN ?_
                refine EJ.thenN (hK17 ?_)
                refine CJ.region ?_
                refine J.p (PR.move rfl) rfl ?_
                refine J.p (PR.add rfl rfl (by first | exact nw _ (by omega) | rfl)) rfl ?_
                refine J.p (PR.assign rfl) rfl ?_
                refine J.nil ?_
                refine EJ.thenN ?_
                exact hAg1 (r + 1) ⟨by omega, .inr h50⟩ (by omega) 30 rfl rfl ⟨(vi (by omega)), ⟨(vi (by rw [oin_one hd h59p h64, ← Int.add_assoc, sgK_flip (by omega)])), trivial⟩⟩ rfl rfl
              ·
                refine CJ.skip ?_
                refine EJ.inN ?_
                refine EJ.thenN (hK17 ?_)
                refine CJ.region ?_
                refine J.p (PR.move rfl) rfl ?_
                refine J.p (PR.add rfl rfl (by first | exact nw _ (by omega) | rfl)) rfl ?_
                refine J.p (PR.assign rfl) rfl ?_
                refine J.nil ?_
                refine EJ.thenN ?_
                exact hAg1 (r + 1) ⟨by omega, .inr h50⟩ (by omega) 27 rfl rfl ⟨(vi (by omega)), ⟨(vi (by rw [oin_nil (.inr (by have := o9 (by omega) h59p; omega))])), trivial⟩⟩ rfl rfl
            ·
              try have h59p := of_decide_eq_false h59
              refine J.gn rfl rfl rfl h59 ?_
              refine J.gn rfl rfl rfl h59 ?_
              refine J.gn rfl rfl rfl h59 ?_
              refine J.gn rfl rfl rfl h59 ?_
              refine J.p (PR.pickF rfl h59 rfl) rfl ?_
              refine J.nil ?_
              refine EJ.thenN (hK18 ?_)
              refine CJ.condF rfl ?_
              refine CJ.skip ?_
              refine EJ.inN ?_
              refine EJ.thenN (hK17 ?_)
              refine CJ.region ?_
              refine J.p (PR.move rfl) rfl ?_
              refine J.p (PR.add rfl rfl (by first | exact nw _ (by omega) | rfl)) rfl ?_
              refine J.p (PR.assign rfl) rfl ?_
              refine J.nil ?_
              refine EJ.thenN ?_
              exact hAg1 (r + 1) ⟨by omega, .inr h50⟩ (by omega) 27 rfl rfl ⟨(vi (by omega)), ⟨(vi (by rw [oin_nil (.inl (by omega))])), trivial⟩⟩ rfl rfl
          ·
            refine CJ.exit ?_
            refine EJ.thenE ?_
            refine EJ.thenE ?_
            refine EJ.inE ?_
            refine EJ.inN ?_
            refine EJ.thenN (hK7 ?_)
            refine CJ.region ?_
            refine J.p (PR.move rfl) rfl ?_
            refine J.p (PR.add rfl rfl (by first | exact nw _ (by omega) | rfl)) rfl ?_
            refine J.p (PR.assign rfl) rfl ?_
            refine J.nil ?_
            refine EJ.thenN ?_
            exact hAg0 (i + 1) ⟨by omega, upto hh (hit_no (by omega) (by omega) h37)⟩ (by omega) 43 rfl rfl ⟨rfl, ⟨(vi (jn_none (k := k) (h2.odd i (by omega) h33) (by omega) hk1 h50)), trivial⟩⟩ rfl rfl
        ·
          try have h45p := of_decide_eq_false h45
          refine J.gn rfl rfl rfl h45 ?_
          refine J.gn rfl rfl rfl h45 ?_
          refine J.gn rfl rfl rfl h45 ?_
          refine J.gn rfl rfl rfl h45 ?_
          refine J.p (PR.pickF rfl h45 rfl) rfl ?_
          refine J.nil ?_
          refine EJ.thenN (hK16 ?_)
          refine CJ.condF rfl ?_
          refine CJ.exit ?_
          refine EJ.thenE ?_
          refine EJ.thenE ?_
          refine EJ.inE ?_
          refine EJ.inN ?_
          refine EJ.thenN (hK7 ?_)
          refine CJ.region ?_
          refine J.p (PR.move rfl) rfl ?_
          refine J.p (PR.add rfl rfl (by first | exact nw _ (by omega) | rfl)) rfl ?_
          refine J.p (PR.assign rfl) rfl ?_
          refine J.nil ?_
          refine EJ.thenN ?_
          exact hAg0 (i + 1) ⟨by omega, upto hh (hit_no (by omega) (by omega) h37)⟩ (by omega) 43 rfl rfl ⟨rfl, ⟨(vi (jn_end (k := k) h33 (h2.odd i (by omega) h33) (by omega) hk1 (by omega))), trivial⟩⟩ rfl rfl
  ·
    refine CJ.exit ?_
    refine EJ.thenE ?_
    refine EJ.thenE ?_
    refine EJ.inE ?_
    refine EJ.thenN (hK3 ?_)
    refine CJ.seq fun _ hK19 _ => ?_
    refine CJ.region ?_
    refine J.p (PR.loadAll rfl At.z (by simpa [*] using ag64)) rfl ?_
    refine J.p (PR.move rfl) rfl ?_
    refine J.storeAll rfl rfl (by first | exact bytesC_one _ | exact intsC_one _ | exact Term.c_one _ | simp [Value.oneCell']) (by simpa [*] using sz64) (by simp [*]) (.s .z) ?_
    refine J.p (PR.assign rfl) rfl ?_
    refine J.nil ?_
    refine EJ.thenN (hK19 ?_)
    refine CJ.ret ?_
    refine EJ.ret2 rfl (Res.agg rfl (.s .z) (by simpa [*] using ag64)) (Res.tmp rfl) fun w hH => ?_
    replace hH := hH.tail
    replace hH := hH.tail
    replace hH := hH.tail
    replace hH := hH.tail
    have hi9 : i = ds.length := by omega
    obtain ⟨e1, e2⟩ := sgn_free (ds := ds) (p := m) (q := k) (fun j hj => hh j (by omega))
    rw [e1, e2, hi9, addK_end hm.len hk.len h1 h2]
    exact ⟨rfl, hH⟩
end Go.Proofs.YtbjhllmcnfncdaaDoor.G
namespace Go.Proofs.YtbjhllmcnfncdaaDoor.G
open Go Go.RowKit
namespace Xk
theorem u2 : Tryd.prog.underlying 2 = some (TypeDesc.int .i64) := by kernel_rfl
theorem u30 : Tryd.prog.underlying 30 = some (TypeDesc.slice 66) := by kernel_rfl
theorem u32 : Tryd.prog.underlying 32 = some (TypeDesc.struct #[{ name := "Terms", type := 30, offset := 0, embedded := false, tag := "", pkgPath := "", byteOffset := 0 }]) := by kernel_rfl
theorem u64 : Tryd.prog.underlying 64 = some (TypeDesc.array 8 5) := by kernel_rfl
theorem u66 : Tryd.prog.underlying 66 = some (TypeDesc.struct #[{ name := "Monomial", type := 64, offset := 0, embedded := false, tag := "", pkgPath := "", byteOffset := 0 }, { name := "Factor", type := 2, offset := 8, embedded := false, tag := "", pkgPath := "", byteOffset := 8 }]) := by kernel_rfl
theorem sz2 : Size Tryd.prog 2 1 := by unfold Size; kernel_rfl
theorem sz30 : Size Tryd.prog 30 1 := by unfold Size; kernel_rfl
theorem sz32 : Size Tryd.prog 32 1 := by unfold Size; kernel_rfl
theorem sz64 : Size Tryd.prog 64 8 := by unfold Size; kernel_rfl
theorem sz66 : Size Tryd.prog 66 9 := by unfold Size; kernel_rfl
theorem by66 : Bytes Tryd.prog 66 16 := by unfold Bytes; kernel_rfl
theorem bz32 : ∀ w, (Instr.build 32 #[]).run Tryd.prog w = .ok (.agg [.slice none 0 0].toArray) w := fun _ => by kernel_rfl
theorem ze32 : Zero Tryd.prog 32 [.slice none 0 0] := by unfold Zero; kernel_rfl
theorem ze64 : Zero Tryd.prog 64 [.int .u8 0, .int .u8 0, .int .u8 0, .int .u8 0, .int .u8 0, .int .u8 0, .int .u8 0, .int .u8 0] := by unfold Zero; kernel_rfl
theorem ze66 : Zero Tryd.prog 66 [.int .u8 0, .int .u8 0, .int .u8 0, .int .u8 0, .int .u8 0, .int .u8 0, .int .u8 0, .int .u8 0, .int .i64 0] := by unfold Zero; kernel_rfl
theorem pl2 : Plain Tryd.prog 2 := ⟨_, u2, rfl⟩
theorem pl30 : Plain Tryd.prog 30 := ⟨_, u30, rfl⟩
theorem ag32 : Agg Tryd.prog 32 1 := ⟨_, u32, rfl, by kernel_rfl⟩
theorem ag64 : Agg Tryd.prog 64 8 := ⟨_, u64, rfl, by kernel_rfl⟩
theorem fn69 : Fn Tryd.prog 69 := ⟨_, Tryd.func69, by kernel_rfl, rfl⟩
theorem fn91 : Fn Tryd.prog 91 := ⟨_, Tryd.func91, by kernel_rfl, rfl⟩
theorem bt66 : ∀ (m : List Int) (f : Int), m.length = 8 → ∀ w, (Instr.build 66 #[(0, .agg (bytesC m).toArray), (1, .int .i64 f)]).run Tryd.prog w = .ok (.agg ((⟨m, f⟩ : Term).c).toArray) w := fun m f hm w => by
  obtain ⟨a0, a1, a2, a3, a4, a5, a6, a7, rfl⟩ := list8_ex hm
  kernel_rfl
theorem foll0 : Tryd.prog.follows .mixedOrders = true := by kernel_rfl
end Xk
open Xk
def ofS (s : Sm) : List Term := s.map fun x => ⟨x.1, x.2⟩
theorem toS_ofS (s : Sm) : toS (ofS s) = s := by
  unfold toS ofS
  rw [List.map_map]
  exact List.map_id' s
theorem ofS_toS (ts : List Term) : ofS (toS ts) = ts := by
  unfold toS ofS
  rw [List.map_map]
  exact List.map_id' ts
@[simp] theorem ofS_len (s : Sm) : (ofS s).length = s.length := by simp [ofS]
@[simp] theorem toS_len (ts : List Term) : (toS ts).length = ts.length := by simp [toS]
theorem ofS_app (a b : Sm) : ofS (a ++ b) = ofS a ++ ofS b := by simp [ofS]
theorem ofS_wf {s : Sm} {M : Int} (hM : M ≤ 255) (h : ∀ x ∈ s, Pok M x.1 ∧ -9223372036854775808 ≤ x.2 ∧ x.2 ≤ 9223372036854775807) : Wfs (ofS s) := fun t ht => by
  obtain ⟨x, hx, rfl⟩ := List.mem_map.1 ht
  obtain ⟨h1, h2⟩ := h x hx
  exact ⟨⟨h1.len, (h1.mono hM).bd⟩, h2⟩
theorem Sok.wf {s : Sm} {M : Int} (h : Sok M s) (hM : M ≤ 255) : Wfs (ofS s) := ofS_wf hM fun x hx => ⟨h.key x hx, by have := h.val x hx; omega⟩
structure Gok (M : Int) (s : Sm) : Prop where
  srt : s.Pairwise fun x y => before x.1 y.1 = true
  key : ∀ x ∈ s, Pok M x.1
  val : ∀ x ∈ s, 0 ≤ x.2 ∧ x.2 ≤ 10006
theorem Sok.g {M : Int} {s : Sm} (h : Sok M s) : Gok M s := ⟨h.srt, h.key, fun x hx => by have := h.val x hx; omega⟩
theorem Gok.wf {s : Sm} {M : Int} (h : Gok M s) (hM : M ≤ 255) : Wfs (ofS s) := ofS_wf hM fun x hx => ⟨h.key x hx, by have := h.val x hx; omega⟩
theorem Gok.take {M : Int} {ts : List Term} (h : Gok M (toS ts)) (k : Nat) : Gok M (toS (ts.take k)) := by
  have e : toS (ts.take k) = (toS ts).take k := by simp [toS, List.map_take]
  rw [e]
  exact ⟨h.srt.sublist (List.take_sublist _ _), fun x hx => h.key x (List.mem_of_mem_take hx), fun x hx => h.val x (List.mem_of_mem_take hx)⟩
def KEx (ds : Pw) (s : Sm) : Prop := ∀ x ∈ s, Ex ds x.1
def raw1 (ds : Pw) (x : Pw × Int) (t : Sm) : Sm := t.flatMap fun y => if sgn ds x.1 y.1 = 0 then [] else [(addp x.1 y.1, sgn ds x.1 y.1 * x.2 * y.2)]
def shf (ds : Pw) (x : Pw × Int) (t : Sm) : Sm := (raw1 ds x t).map fun z => (z.1, fld z.2)
theorem mul1_raw (ds : Pw) (x : Pw × Int) (t : Sm) : mul1 ds x t = (raw1 ds x t).map fun z => (z.1, z.2.tmod 10007) := by
  unfold mul1 raw1
  rw [List.map_flatMap]
  congr 1
  funext y
  split <;> rfl
theorem acc_shf (ds : Pw) (x : Pw × Int) (t s : Sm) : acc s (scl (shf ds x t) 1) = acc s (mul1 ds x t) := by
  rw [mul1_raw]
  unfold scl shf
  rw [List.map_map]
  exact acc_congr s fun z _ => ⟨rfl, fun a => by
    show fld (a + (fld z.2 * 1).tmod 10007) = fld (a + z.2.tmod 10007)
    rw [fld_tmod, fld_tmod, Int.mul_one, fld_fld]⟩
theorem raw1_mem {ds : Pw} {x : Pw × Int} {t : Sm} {z : Pw × Int} (h : z ∈ raw1 ds x t) : ∃ y ∈ t, sgn ds x.1 y.1 ≠ 0 ∧ z = (addp x.1 y.1, sgn ds x.1 y.1 * x.2 * y.2) := by
  obtain ⟨y, hy, hz⟩ := List.mem_flatMap.1 h
  split at hz
  · simp at hz
  · rename_i hs
    simp at hz
    exact ⟨y, hy, hs, hz⟩
theorem raw1_len (ds : Pw) (x : Pw × Int) : ∀ t : Sm, (raw1 ds x t).length ≤ t.length
  | [] => by simp [raw1]
  | y :: t => by
    have h := raw1_len ds x t
    unfold raw1 at h ⊢
    rw [List.flatMap_cons, List.length_append, List.length_cons]
    split
    · rw [List.length_nil]; omega
    · rw [List.length_singleton]; omega
theorem shf_len (ds : Pw) (x : Pw × Int) (t : Sm) : (shf ds x t).length ≤ t.length := by unfold shf; rw [List.length_map]; exact raw1_len ds x t
theorem before_addp {p q r : Pw} (hp : p.length = 8) (hq : q.length = 8) (hr : r.length = 8) (h : before q r = true) : before (addp p q) (addp p r) = true := by
  obtain ⟨k, a1, a2, a3⟩ := before_iff.1 h
  refine before_iff.2 ⟨k, a1, fun j hj => ?_, ?_⟩
  · rw [addp_get hp hq, addp_get hp hr, a2 j hj]
  · rw [addp_get hp hq, addp_get hp hr]
    omega
theorem raw1_srt {ds : Pw} {x : Pw × Int} (hx : x.1.length = 8) : ∀ {t : Sm}, (t.Pairwise fun x y => before x.1 y.1 = true) → (∀ y ∈ t, y.1.length = 8) → (raw1 ds x t).Pairwise fun x y => before x.1 y.1 = true
  | [], _, _ => List.Pairwise.nil
  | y :: t, h, hl => by
    obtain ⟨h1, h2⟩ := List.pairwise_cons.1 h
    have ih := raw1_srt (ds := ds) hx h2 fun z hz => hl z (by simp [hz])
    unfold raw1 at ih ⊢
    rw [List.flatMap_cons]
    split
    · exact ih
    · refine List.pairwise_cons.2 ⟨fun z hz => ?_, ih⟩
      obtain ⟨y', hy', _, rfl⟩ := raw1_mem (ds := ds) (x := x) (t := t) hz
      exact before_addp hx (hl y (by simp)) (hl y' (by simp [hy'])) (h1 y' hy')
theorem shf_g {ds : Pw} {x : Pw × Int} {t : Sm} {M N : Int} (hx : Pok M x.1) (ht : Gok N t) : Gok (M + N) (shf ds x t) := by
  refine ⟨?_, fun z hz => ?_, fun z hz => ?_⟩
  · unfold shf
    rw [List.pairwise_map]
    exact raw1_srt hx.len ht.srt fun y hy => (ht.key y hy).len
  · obtain ⟨r, hr, rfl⟩ := List.mem_map.1 hz
    obtain ⟨y, hy, _, rfl⟩ := raw1_mem hr
    exact hx.add (ht.key y hy)
  · obtain ⟨r, hr, rfl⟩ := List.mem_map.1 hz
    exact fld_bd _
theorem Ex.add {ds p q : Pw} {M N : Int} (hp : Pok M p) (hq : Pok N q) (h1 : Ex ds p) (h2 : Ex ds q) (hs : sgn ds p q ≠ 0) : Ex ds (addp p q) := by
  refine ⟨fun i hi => ?_, fun i hi ho => ?_⟩
  · rw [addp_get hp.len hq.len, h1.out i hi, h2.out i hi]
    rfl
  · rw [addp_get hp.len hq.len]
    have a := h1.odd i hi ho
    have b := h2.odd i hi ho
    have c := hp.bd i
    have d := hq.bd i
    rcases Int.lt_or_le (p.getD i 0 + q.getD i 0) 2 with h | h
    · omega
    · exact absurd (sgn_hit hi (hit_yes (ds := ds) (p := p) (q := q) (k := i) ho (by omega) (by omega))).1 hs
theorem mul1_kex {ds : Pw} {x : Pw × Int} {t : Sm} {M N : Int} (hx : Pok M x.1) (ht : Gok N t) (h1 : Ex ds x.1) (h2 : KEx ds t) : KEx ds (mul1 ds x t) := fun z hz => by
  obtain ⟨y, hy, hs, e⟩ := mul1_mem hz
  rw [e]
  exact h1.add hx (ht.key y hy) (h2 y hy) hs
theorem acc_mem {l : Sm} : ∀ {s : Sm} {z : Pw × Int}, z ∈ acc s l → z ∈ s ∨ ∃ x ∈ l, z.1 = x.1 := by
  induction l with
  | nil => intro s z h; exact .inl h
  | cons x l ih =>
    intro s z h
    rw [acc_cons] at h
    rcases ih h with h | ⟨y, hy, e⟩
    · rcases addS_mem h with h | h
      · exact .inr ⟨x, by simp, h⟩
      · exact .inl h
    · exact .inr ⟨y, by simp [hy], e⟩
theorem acc_kex {ds : Pw} {s l : Sm} (h1 : KEx ds s) (h2 : KEx ds l) : KEx ds (acc s l) := fun z hz => by
  rcases acc_mem hz with h | ⟨x, hx, e⟩
  · exact h1 z h
  · rw [e]; exact h2 x hx
theorem shf_take {ds : Pw} {x : Pw × Int} {ts : List Term} {k : Nat} (hk : k < ts.length) : shf ds x (toS (ts.take (k + 1))) = shf ds x (toS (ts.take k)) ++ (if sgn ds x.1 (tm ts k).mono = 0 then [] else [(addp x.1 (tm ts k).mono, fld (sgn ds x.1 (tm ts k).mono * x.2 * (tm ts k).fac))]) := by
  rw [toS_take hk]
  unfold shf raw1
  rw [List.flatMap_append, List.map_append]
  congr 1
  simp only [List.flatMap_cons, List.flatMap_nil, List.append_nil]
  split <;> rfl
theorem prodP_mono {M N : Int} {ds p q : Pw} (hp : Pok M p) (hq : Pok N q) (h : M + N ≤ 255) : Mono (prodP ds p q) := by
  have := (prodP_pok (ds := ds) hp hq).mono h
  exact ⟨this.len, this.bd⟩
theorem shf_no {ds : Pw} {x : Pw × Int} {ts : List Term} {k : Nat} (hk : k < ts.length) (h : sgn ds x.1 (tm ts k).mono = 0) : shf ds x (toS (ts.take k)) = shf ds x (toS (ts.take (k + 1))) := by
  rw [shf_take hk, if_pos h, List.append_nil]
theorem shf_yes {ds : Pw} {x : Pw × Int} {ts : List Term} {k : Nat} (hk : k < ts.length) (h : sgn ds x.1 (tm ts k).mono ≠ 0) : ofS (shf ds x (toS (ts.take k))) ++ [⟨prodP ds x.1 (tm ts k).mono, fld (sgn ds x.1 (tm ts k).mono * x.2 * (tm ts k).fac)⟩] = ofS (shf ds x (toS (ts.take (k + 1)))) := by
  rw [shf_take hk, if_neg h, ofS_app, prodP_of h]
  rfl
theorem toS_at {ts : List Term} {k : Nat} (hk : k < ts.length) : ((tm ts k).mono, (tm ts k).fac) ∈ toS ts := by
  refine List.mem_map.2 ⟨tm ts k, ?_, rfl⟩
  have : tm ts k = ts[k] := by simp [tm, List.getD_eq_getElem?_getD, List.getElem?_eq_getElem hk]
  rw [this]
  exact List.getElem_mem hk
set_option maxHeartbeats 8000000 in
set_option maxRecDepth 10000 in
theorem l01Shift_c {B : World} {H0 H : HP} {L : List SA} {w : World} {qds : Option Addr} {cds : Nat} {ds : List Int} {t : Term} {qg : Option Addr} {cg : Nat} {g : List Term} {M N : Int} (hds : Ints H qds ds) (ht : t.wf) (hg : Terms H qg g) (hn : ds.length ≤ 8) (hd : ∀ j, 0 ≤ ds.getD j 0 ∧ ds.getD j 0 ≤ 12) (h1 : Ex ds t.mono) (h2 : KEx ds (toS g)) (hp : Pok M t.mono) (hq : Gok N (toS g)) (hM : M + N ≤ 255) (hf : 0 ≤ t.fac ∧ t.fac ≤ 10006) (hl : g.length ≤ 1000000000) (hH : Hp B H0 H L w) :
    Calls Tryd.prog 79 [.slice qds ds.length cds, .agg t.c.toArray, .agg [.slice qg g.length cg].toArray].toArray w fun e w' => ∃ q c, e = .returned (.agg [.slice q (ofS (shf ds (t.mono, t.fac) (toS g))).length c].toArray) ∧ Hp B H0 H (own 66 9 q (ofS (shf ds (t.mono, t.fac) (toS g))).length c (tsC (ofS (shf ds (t.mono, t.fac) (toS g)))) :: L) w' := by
  refine CJ.enter Tryd.func79 rfl 54 rfl rfl [(0, .slice qds ds.length cds), (1, .agg t.c.toArray), (2, .agg [.slice qg g.length cg].toArray)] rfl hH ?_
  clear hH
  refine CJ.seq fun _ hK1 _ => ?_
  refine CJ.region ?_
  refine J.box rfl rfl rfl fun g4 => ?_
  refine J.box rfl rfl rfl fun g5 => ?_
  refine J.alloc ze32 rfl fun g6 => ?_
  refine J.nil ?_
  refine EJ.thenN (hK1 ?_)
  refine CJ.seq fun _ hK2 _ => ?_
  refine CJ.region ?_
  refine J.own0 66 9 ?_
  refine J.p (PR.buildZ bz32) rfl ?_
  refine J.alloc ze32 rfl fun g7 => ?_
  refine J.storeAll rfl rfl (by first | exact bytesC_one _ | exact intsC_one _ | exact Term.c_one _ | simp [Value.oneCell']) (by simpa [*] using sz32) (by simp [*]) At.z ?_
  refine J.nil ?_
  refine EJ.thenN (hK2 ?_)
  refine CJ.seq fun _ hK3 _ => ?_
  refine CJ.seq fun _ hK4 _ => ?_
  refine CJ.region ?_
  refine J.p (PR.assign rfl) rfl ?_
  refine J.nil ?_
  refine EJ.thenN (hK4 ?_)
  refine CJ.block ?_
  refine CJ.loopU (σ := Option Addr × Nat × Nat) (fun ⟨q, c, k⟩ => [(8, .int .i64 (k : Int))]) (fun ⟨q, c, k⟩ => H) (fun ⟨q, c, k⟩ => obj g7 (.cells [.slice q (ofS (shf ds (t.mono, t.fac) (toS (g.take k)))).length c].toArray 32 (0, 0)) :: own 66 9 q (ofS (shf ds (t.mono, t.fac) (toS (g.take k)))).length c (tsC (ofS (shf ds (t.mono, t.fac) (toS (g.take k))))) :: obj g6 (.cells [.slice none 0 0].toArray 32 (0, 0)) :: obj g5 (.cells [.slice qg g.length cg].toArray 32 (0, 0)) :: obj g4 (.cells t.c.toArray 66 (0, 0)) :: L) (fun ⟨q, c, k⟩ => k ≤ g.length) (fun ⟨q, c, k⟩ => g.length - k) (none, 0, 0) (by show 0 ≤ g.length; omega) ⟨rfl, trivial⟩ rfl rfl ?_
  rintro ⟨q, c, k⟩ hI _ hAg0
  have hk := hI
  have oL : (ofS (shf ds (t.mono, t.fac) (toS (g.take k)))).length ≤ g.length := by rw [ofS_len]; exact Nat.le_trans (shf_len _ _ _) (by rw [toS_len]; exact Nat.le_trans (List.length_take_le _ _) hk)
  have wfO : Wfs (ofS (shf ds (t.mono, t.fac) (toS (g.take k)))) := ((shf_g (ds := ds) (x := (t.mono, t.fac)) hp (hq.take k)).wf hM)
  refine CJ.seq fun _ hK5 _ => ?_
  refine CJ.seq fun _ hK6 _ => ?_
  refine CJ.region ?_
  refine J.p (PR.move rfl) rfl ?_
  refine J.p (PR.fldA u32 rfl sz30 rfl) rfl ?_
  refine J.p (PR.load rfl (.s (.s (.s .z))) rfl pl30) rfl ?_
  refine J.p (PR.lenSlice u30 rfl rfl) rfl ?_
  refine J.p (PR.lss rfl rfl) rfl ?_
  refine J.nil ?_
  refine EJ.thenN (hK6 ?_)
  refine CJ.condD rfl (fun h16 => ?_) (fun h16 => ?_)
  ·
    have hy := toS_at (ts := g) (k := k) (by omega)
    have hyp := hq.key _ hy
    have hyv := hq.val _ hy
    have hye := h2 _ hy
    have mP := prodP_mono (ds := ds) hp hyp hM
    have mPl := mP.len
    have sbb : ∀ i, t.mono.getD i 0 + (tm g k).mono.getD i 0 ≤ 255 := fun i => by have a := (hp.bd i).2; have b := (hyp.bd i).2; simp only at b; omega
    have sg : -1 ≤ sgn ds t.mono (tm g k).mono ∧ sgn ds t.mono (tm g k).mono ≤ 1 := by rcases sgn_cases ds t.mono (tm g k).mono with h | h | h <;> omega
    have s1 := mul_sb (b := t.fac) (B := 10006) sg hf
    have s2 := mul_sb (b := (tm g k).fac) (B := 10006) s1 hyv
    have fb := fld_bd (sgn ds t.mono (tm g k).mono * t.fac * (tm g k).fac)
    refine CJ.skip ?_
    refine EJ.thenN (hK5 ?_)
    refine CJ.seq fun _ hK7 _ => ?_
    refine CJ.block ?_
    refine CJ.seq fun _ hK8 _ => ?_
    refine CJ.openR (Rs := [_, _, _, _, _]) 16 [[], [], [1], [], [3], [], [3, 4, 5], [3, 4, 5, 6], [3, 4, 5, 6, 7], [0, 1, 2, 3, 4, 5, 6, 7, 8], [0, 1, 2, 3, 4, 5, 6, 7, 8, 9], [0, 1, 2, 3, 4, 5, 6, 7, 8, 9, 10], [0, 1, 2, 3, 4, 5, 6, 7, 8, 9, 10], [], [0, 1, 2, 3, 4, 5, 6, 7, 8, 9, 10, 11, 13], [0, 1, 2, 3, 4, 5, 6, 7, 8, 9, 10, 11, 12, 13, 14]] [[], [], [20], [], [19], [], [], [], [], [], [], [], [], [], [], []] [[], [], [], [], [], [], [], [], [], [], [], [], [], [], [13], []] rfl rfl (by kernel_rfl) ?_
    apply GJ.st0 1 rfl
    iterate 3 focus (intros; (conv => lhs; simp only [slotsZ, zlAt, vs0, resL, at2, eq_self, Nat.reduceEqDiff, reduceIte, Nat.reduceSub, Nat.reduceAdd, List.cons_append, List.nil_append]); all_goals rfl)
    ·
      intro gh X K zq zc zq2 zc2 zb zv hK
      refine J.p (PR.move rfl) rfl ?_
      refine J.nilK ?_
      exact hK zq zc zq2 zc2 zb zv
    ·
      intro gh gh' h
      rfl
    apply GJ.st0 2 rfl
    iterate 3 focus (intros; (conv => lhs; simp only [slotsZ, zlAt, vs0, resL, at2, eq_self, Nat.reduceEqDiff, reduceIte, Nat.reduceSub, Nat.reduceAdd, List.cons_append, List.nil_append]); all_goals rfl)
    ·
      intro gh X K zq zc zq2 zc2 zb zv hK
      refine J.p (PR.fldA u66 rfl sz64 rfl) rfl ?_
      refine J.nilK ?_
      exact hK zq zc zq2 zc2 zb zv
    ·
      intro gh gh' h
      rfl
    apply GJ.st0 3 rfl
    iterate 3 focus (intros; (conv => lhs; simp only [slotsZ, zlAt, vs0, resL, at2, eq_self, Nat.reduceEqDiff, reduceIte, Nat.reduceSub, Nat.reduceAdd, List.cons_append, List.nil_append]); all_goals rfl)
    ·
      intro gh X K zq zc zq2 zc2 zb zv hK
      refine J.p (PR.ldMono rfl At.z ht ag64) rfl ?_
      refine J.nilK ?_
      exact hK zq zc zq2 zc2 zb zv
    ·
      intro gh gh' h
      rfl
    apply GJ.st0 4 rfl
    iterate 3 focus (intros; (conv => lhs; simp only [slotsZ, zlAt, vs0, resL, at2, eq_self, Nat.reduceEqDiff, reduceIte, Nat.reduceSub, Nat.reduceAdd, List.cons_append, List.nil_append]); all_goals rfl)
    ·
      intro gh X K zq zc zq2 zc2 zb zv hK
      refine J.p (PR.fldA u32 rfl sz30 rfl) rfl ?_
      refine J.nilK ?_
      exact hK zq zc zq2 zc2 zb zv
    ·
      intro gh gh' h
      rfl
    apply GJ.st0 5 rfl
    iterate 3 focus (intros; (conv => lhs; simp only [slotsZ, zlAt, vs0, resL, at2, eq_self, Nat.reduceEqDiff, reduceIte, Nat.reduceSub, Nat.reduceAdd, List.cons_append, List.nil_append]); all_goals rfl)
    ·
      intro gh X K zq zc zq2 zc2 zb zv hK
      refine J.p (PR.load rfl At.z rfl pl30) rfl ?_
      refine J.nilK ?_
      exact hK zq zc zq2 zc2 zb zv
    ·
      intro gh gh' h
      rfl
    apply GJ.st0 6 rfl
    iterate 3 focus (intros; (conv => lhs; simp only [slotsZ, zlAt, vs0, resL, at2, eq_self, Nat.reduceEqDiff, reduceIte, Nat.reduceSub, Nat.reduceAdd, List.cons_append, List.nil_append]); all_goals rfl)
    ·
      intro gh X K zq zc zq2 zc2 zb zv hK
      refine J.p (PR.move rfl) rfl ?_
      refine J.nilK ?_
      exact hK zq zc zq2 zc2 zb zv
    ·
      intro gh gh' h
      rfl
    apply GJ.st0 7 rfl
    iterate 3 focus (intros; (conv => lhs; simp only [slotsZ, zlAt, vs0, resL, at2, eq_self, Nat.reduceEqDiff, reduceIte, Nat.reduceSub, Nat.reduceAdd, List.cons_append, List.nil_append]); all_goals rfl)
    ·
      intro gh X K zq zc zq2 zc2 zb zv hK
      refine J.p (PR.idx u30 sz66 rfl rfl rfl (by omega) hg.sm) rfl ?_
      refine J.nilK ?_
      exact hK zq zc zq2 zc2 zb zv
    ·
      intro gh gh' h
      rfl
    apply GJ.st0 8 rfl
    iterate 3 focus (intros; (conv => lhs; simp only [slotsZ, zlAt, vs0, resL, at2, eq_self, Nat.reduceEqDiff, reduceIte, Nat.reduceSub, Nat.reduceAdd, List.cons_append, List.nil_append]); all_goals rfl)
    ·
      intro gh X K zq zc zq2 zc2 zb zv hK
      refine J.p (PR.fldP u66 rfl sz64 rfl (hg.sm (i := k) (by omega))) rfl ?_
      refine J.nilK ?_
      exact hK zq zc zq2 zc2 zb zv
    ·
      intro gh gh' h
      rfl
    apply GJ.st0 9 rfl
    iterate 3 focus (intros; (conv => lhs; simp only [slotsZ, zlAt, vs0, resL, at2, eq_self, Nat.reduceEqDiff, reduceIte, Nat.reduceSub, Nat.reduceAdd, List.cons_append, List.nil_append]); all_goals rfl)
    ·
      intro gh X K zq zc zq2 zc2 zb zv hK
      refine J.p (PR.loadHagg rfl (hg.mono (by omega)) (hg.sm (i := k) (by omega)) (by rw [bytesC_length, (hg.wf _ (by omega)).mono.len]; exact ag64)) rfl ?_
      refine J.nilK ?_
      exact hK zq zc zq2 zc2 zb zv
    ·
      intro gh gh' h
      rfl
    apply GJ.st0 10 rfl
    iterate 3 focus (intros; (conv => lhs; simp only [slotsZ, zlAt, vs0, resL, at2, eq_self, Nat.reduceEqDiff, reduceIte, Nat.reduceSub, Nat.reduceAdd, List.cons_append, List.nil_append]); all_goals rfl)
    ·
      intro gh X K zq zc zq2 zc2 zb zv hK
      refine J.call fn91 rfl rfl fun w hH => (l01Joined_c hds ht.mono (hg.wf k (by omega)).mono hn hd h1 hye sbb hH).mono ?_
      rintro _ w ⟨rfl, hH⟩
      refine ⟨_, rfl, fun a hF => J.of hF hH ?_⟩
      refine J.nilK ?_
      exact hK zq zc zq2 zc2 zb zv
    ·
      intro gh gh' h
      rfl
    apply GJ.st0 11 rfl
    iterate 3 focus (intros; (conv => lhs; simp only [slotsZ, zlAt, vs0, resL, at2, eq_self, Nat.reduceEqDiff, reduceIte, Nat.reduceSub, Nat.reduceAdd, List.cons_append, List.nil_append]); all_goals rfl)
    ·
      intro gh X K zq zc zq2 zc2 zb zv hK
      refine J.p (PR.move rfl) rfl ?_
      refine J.nilK ?_
      exact hK zq zc zq2 zc2 zb zv
    ·
      intro gh gh' h
      rfl
    apply GJ.st0 12 rfl
    iterate 3 focus (intros; (conv => lhs; simp only [slotsZ, zlAt, vs0, resL, at2, eq_self, Nat.reduceEqDiff, reduceIte, Nat.reduceSub, Nat.reduceAdd, List.cons_append, List.nil_append]); all_goals rfl)
    ·
      intro gh X K zq zc zq2 zc2 zb zv hK
      refine J.p (PR.extract rfl rfl) rfl ?_
      refine J.nilK ?_
      exact hK zq zc zq2 zc2 zb zv
    ·
      intro gh gh' h
      rfl
    apply GJ.st0 13 rfl
    iterate 3 focus (intros; (conv => lhs; simp only [slotsZ, zlAt, vs0, resL, at2, eq_self, Nat.reduceEqDiff, reduceIte, Nat.reduceSub, Nat.reduceAdd, List.cons_append, List.nil_append]); all_goals rfl)
    ·
      intro gh X K zq zc zq2 zc2 zb zv hK
      refine J.p (PR.extract rfl rfl) rfl ?_
      refine J.nilK ?_
      exact hK zq zc zq2 zc2 zb zv
    ·
      intro gh gh' h
      rfl
    apply GJ.st1 14 rfl
    iterate 3 focus (intros; (conv => lhs; simp only [slotsZ, zlAt, vs0, resL, at2, eq_self, Nat.reduceEqDiff, reduceIte, Nat.reduceSub, Nat.reduceAdd, List.cons_append, List.nil_append]); all_goals rfl)
    ·
      intro gh X K zq zc zq2 zc2 zb zv hK
      refine J.alloc ze64 rfl fun g9 => ?_
      refine J.nilK ?_
      exact hK zq zc zq2 zc2 g9 zv
    ·
      intro gh gh' h
      refine ⟨?_, ?_⟩ <;> rfl
    apply GJ.sn1 15 rfl
    iterate 3 focus (intros; (conv => lhs; simp only [slotsZ, zlAt, vs0, resL, at2, eq_self, Nat.reduceEqDiff, reduceIte, Nat.reduceSub, Nat.reduceAdd, List.cons_append, List.nil_append]); all_goals rfl)
    ·
      intro gh X K hK
      refine J.storeAll rfl rfl (by first | exact bytesC_one _ | exact intsC_one _ | exact Term.c_one _ | simp [Value.oneCell']) (by simpa [*] using sz64) (by simp [*]) At.z ?_
      refine J.nilK ?_
      exact hK
    ·
      intro gh gh' h
      first | simp only [h 13 rfl] | rfl
    apply GJ.st0 16 rfl
    iterate 3 focus (intros; (conv => lhs; simp only [slotsZ, zlAt, vs0, resL, at2, eq_self, Nat.reduceEqDiff, reduceIte, Nat.reduceSub, Nat.reduceAdd, List.cons_append, List.nil_append]); all_goals rfl)
    ·
      intro gh X K zq zc zq2 zc2 zb zv hK
      refine J.p (PR.assign rfl) rfl ?_
      refine J.nilK ?_
      exact hK zq zc zq2 zc2 zb zv
    ·
      intro gh gh' h
      first | simp only [h 13 rfl] | rfl
    apply GJ.close [0, 1, 2, 3, 4, 5, 6, 7, 8, 9, 10, 11, 12, 13, 14, 15] [0, 1, 2, 3, 4, 5, 6, 7, 8, 9, 10, 11, 12, 14, 15, 16, 17, 18, 19, 20] foll0 rfl rfl rfl (by rfl)
    iterate 2 focus (intros; (conv => lhs; simp only [slotsZ, zlAt, vs0, resL, at2, eq_self, Nat.reduceEqDiff, reduceIte, Nat.reduceSub, Nat.reduceAdd, List.cons_append, List.nil_append]); all_goals rfl)
    intro gh
    generalize (gh 13).b = g9
    clear gh
    refine EJ.thenN (hK8 ?_)
    refine CJ.seq fun _ hK9 _ => ?_
    refine CJ.region ?_
    refine J.p (PR.move rfl) rfl ?_
    refine J.p (PR.neq rfl rfl) rfl ?_
    refine J.nil ?_
    refine EJ.thenN (hK9 ?_)
    refine CJ.condD rfl (fun h33 => ?_) (fun h33 => ?_)
    ·
      refine CJ.head [[], [0], [], [], [], [4], [3, 5], [], [7], [], [8, 9], [10], [11], [6, 12], [13], [2, 14], [15]] (by kernel_rfl) ?_
      refine HJ.op (fun gh => PR.fldA u32 rfl sz30 rfl) ?_
      refine HJ.op (fun gh => PR.load rfl (.s .z) rfl pl30) ?_
      refine HJ.op (fun gh => PR.loadAll rfl At.z (by simpa [*] using ag64)) ?_
      refine HJ.op (fun gh => PR.move rfl) ?_
      refine HJ.op (fun gh => PR.fldA u66 rfl sz2 rfl) ?_
      refine HJ.op (fun gh => PR.ldFac rfl (.s (.s (.s (.s (.s .z))))) ht pl2) ?_
      refine HJ.op (fun gh => PR.mul rfl rfl (by first | exact nw _ (by omega) | rfl)) ?_
      refine HJ.op (fun gh => PR.fldA u32 rfl sz30 rfl) ?_
      refine HJ.op (fun gh => PR.load rfl (.s (.s (.s (.s .z)))) rfl pl30) ?_
      refine HJ.op (fun gh => PR.move rfl) ?_
      refine HJ.op (fun gh => PR.idx u30 sz66 rfl rfl rfl (by omega) hg.sm) ?_
      refine HJ.op (fun gh => PR.fldP u66 rfl sz2 rfl (hg.sm (i := k) (by omega))) ?_
      refine HJ.op (fun gh => PR.loadH rfl (hg.fac (by omega)) pl2) ?_
      refine HJ.op (fun gh => PR.mul rfl rfl (by first | exact nw _ (by omega) | rfl)) ?_
      refine HJ.call fn69 (fun gh => rfl) (fun w X hH => l01Mod_c (by omega) hH) ?_
      refine HJ.op (fun gh => PR.build2 rfl rfl (fun w => bt66 _ _ mP.len w)) ?_
      refine HJ.mk (fun gh => MK.lit1T u30 ze66 sz66 (Term.wf.of mP (by omega)) rfl) ?_
      refine HJ.close 17 3 foll0 (by kernel_rfl) rfl rfl fun gh => ?_
      refine J.conv (us' := (34, _) :: (35, _) :: (36, _) :: (37, _) :: (38, _) :: (39, _) :: (40, _) :: (41, _) :: (42, _) :: (43, _) :: (44, _) :: (45, _) :: (46, _) :: (47, _) :: (48, _) :: (49, _) :: (50, _) :: _) (L' := _ :: _) rfl rfl ?_
      refine J.appendOT u30 ze66 sz66 by66 rfl rfl (by simp only [List.length_cons, List.length_nil]; omega) .z (.s (.s .z)) (fun _ _ => (.s (.s .z))) rfl fun qo51 co51 => ?_
      refine J.p (PR.fldA u32 rfl sz30 rfl) rfl ?_
      refine J.store rfl rfl rfl rfl sz30 (by simp [*]) (.s (.s .z)) ?_
      refine J.nil ?_
      refine EJ.still ?_
      refine JS.nil ?_
      refine EJ.inN ?_
      refine EJ.thenN (hK7 ?_)
      refine CJ.region ?_
      refine J.p (PR.move rfl) rfl ?_
      refine J.p (PR.add rfl rfl (by first | exact nw _ (by omega) | rfl)) rfl ?_
      refine J.p (PR.assign rfl) rfl ?_
      refine J.nil ?_
      refine EJ.thenN ?_
      refine EJ.drop .z ?_
      refine EJ.drop .z ?_
      exact hAg0 (qo51, co51, k + 1) (by show k + 1 ≤ g.length; omega) (by show g.length - (k + 1) < g.length - k; omega) 45 rfl rfl ⟨rfl, trivial⟩ rfl (by dsimp only; rw [← shf_yes (by omega) h33]; rfl)
    ·
      have h33e := Decidable.not_not.1 h33
      refine CJ.skip ?_
      refine EJ.inN ?_
      refine EJ.thenN (hK7 ?_)
      refine CJ.region ?_
      refine J.p (PR.move rfl) rfl ?_
      refine J.p (PR.add rfl rfl (by first | exact nw _ (by omega) | rfl)) rfl ?_
      refine J.p (PR.assign rfl) rfl ?_
      refine J.nil ?_
      refine EJ.thenN ?_
      refine EJ.drop .z ?_
      exact hAg0 (q, c, k + 1) (by show k + 1 ≤ g.length; omega) (by show g.length - (k + 1) < g.length - k; omega) 26 rfl rfl ⟨rfl, trivial⟩ rfl (by dsimp only; rw [shf_no (by omega) h33e])
  ·
    refine CJ.exit ?_
    refine EJ.thenE ?_
    refine EJ.thenE ?_
    refine EJ.inE ?_
    refine EJ.thenN (hK3 ?_)
    refine CJ.seq fun _ hK10 _ => ?_
    refine CJ.region ?_
    refine J.p (PR.loadAll rfl At.z (by simpa [*] using ag32)) rfl ?_
    refine J.storeAll rfl rfl (by first | exact bytesC_one _ | exact intsC_one _ | exact Term.c_one _ | simp [Value.oneCell']) (by simpa [*] using sz32) (by simp [*]) (.s (.s .z)) ?_
    refine J.nil ?_
    refine EJ.thenN (hK10 ?_)
    refine CJ.ret ?_
    refine EJ.ret1 rfl (Res.agg rfl (.s (.s .z)) (by simpa [*] using ag32)) fun w hH => ?_
    replace hH := hH.sublist (.cons _ (.cons_cons _ (.cons _ (.cons _ (.cons _ (List.Sublist.refl _))))))
    obtain rfl : k = g.length := by omega
    rw [List.take_length] at hH ⊢
    exact ⟨_, _, rfl, hH⟩
end Go.Proofs.YtbjhllmcnfncdaaDoor.G
namespace Go.Proofs.YtbjhllmcnfncdaaDoor.G
open Go Go.RowKit
def mrg (k : Int) : List Term → List Term → List Term
  | [], [] => []
  | x :: f, [] => x :: mrg k f []
  | [], y :: g => if fld (k * y.fac) = 0 then mrg k [] g else ⟨y.mono, fld (k * y.fac)⟩ :: mrg k [] g
  | x :: f, y :: g => if before x.mono y.mono then x :: mrg k f (y :: g)
    else if before y.mono x.mono then (if fld (k * y.fac) = 0 then mrg k (x :: f) g else ⟨y.mono, fld (k * y.fac)⟩ :: mrg k (x :: f) g)
    else (if fld (x.fac + fld (k * y.fac)) = 0 then mrg k f g else ⟨x.mono, fld (x.fac + fld (k * y.fac))⟩ :: mrg k f g)
termination_by f g => f.length + g.length
theorem mrg_len (k : Int) : ∀ (f g : List Term), (mrg k f g).length ≤ f.length + g.length
  | [], [] => by simp [mrg]
  | x :: f, [] => by
    have := mrg_len k f []
    rw [mrg]
    simp at this ⊢
    omega
  | [], y :: g => by
    have := mrg_len k [] g
    rw [mrg]
    split <;> simp at this ⊢ <;> omega
  | x :: f, y :: g => by
    have h1 := mrg_len k f (y :: g)
    have h2 := mrg_len k (x :: f) g
    have h3 := mrg_len k f g
    rw [mrg]
    split
    · simp at h1 ⊢; omega
    · split
      · split <;> simp at h2 ⊢ <;> omega
      · split <;> simp at h3 ⊢ <;> omega
termination_by f g => f.length + g.length
theorem mrg_mem (k : Int) : ∀ (f g : List Term) (z : Term), z ∈ mrg k f g → ∃ y, (y ∈ f ∨ y ∈ g) ∧ z.mono = y.mono
  | [], [], z, h => by simp [mrg] at h
  | x :: f, [], z, h => by
    rw [mrg] at h
    rcases List.mem_cons.1 h with rfl | h
    · exact ⟨z, .inl (by simp), rfl⟩
    · obtain ⟨y, hy, e⟩ := mrg_mem k f [] z h
      exact ⟨y, hy.imp (fun h => by simp [h]) id, e⟩
  | [], y :: g, z, h => by
    rw [mrg] at h
    have rec_ : z ∈ mrg k [] g → ∃ y', (y' ∈ ([] : List Term) ∨ y' ∈ y :: g) ∧ z.mono = y'.mono := fun h => by
      obtain ⟨y', hy, e⟩ := mrg_mem k [] g z h
      exact ⟨y', hy.imp id (fun h => by simp [h]), e⟩
    split at h
    · exact rec_ h
    · rcases List.mem_cons.1 h with rfl | h
      · exact ⟨y, .inr (by simp), rfl⟩
      · exact rec_ h
  | x :: f, y :: g, z, h => by
    rw [mrg] at h
    have r1 : z ∈ mrg k f (y :: g) → ∃ y', (y' ∈ x :: f ∨ y' ∈ y :: g) ∧ z.mono = y'.mono := fun h => by
      obtain ⟨y', hy, e⟩ := mrg_mem k f (y :: g) z h
      exact ⟨y', hy.imp (fun h => by simp [h]) id, e⟩
    have r2 : z ∈ mrg k (x :: f) g → ∃ y', (y' ∈ x :: f ∨ y' ∈ y :: g) ∧ z.mono = y'.mono := fun h => by
      obtain ⟨y', hy, e⟩ := mrg_mem k (x :: f) g z h
      exact ⟨y', hy.imp id (fun h => by simp [h]), e⟩
    have r3 : z ∈ mrg k f g → ∃ y', (y' ∈ x :: f ∨ y' ∈ y :: g) ∧ z.mono = y'.mono := fun h => by
      obtain ⟨y', hy, e⟩ := mrg_mem k f g z h
      exact ⟨y', hy.imp (fun h => by simp [h]) (fun h => by simp [h]), e⟩
    split at h
    · rcases List.mem_cons.1 h with rfl | h
      · exact ⟨z, .inl (by simp), rfl⟩
      · exact r1 h
    · split at h
      · split at h
        · exact r2 h
        · rcases List.mem_cons.1 h with rfl | h
          · exact ⟨y, .inr (by simp), rfl⟩
          · exact r2 h
      · split at h
        · exact r3 h
        · rcases List.mem_cons.1 h with rfl | h
          · exact ⟨x, .inl (by simp), rfl⟩
          · exact r3 h
termination_by f g => f.length + g.length
theorem cf_toS_none {ts : List Term} {p : Pw} (h : ∀ t ∈ ts, t.mono ≠ p) : cf (toS ts) p = 0 := cf_none fun x hx => by
  obtain ⟨t, ht, rfl⟩ := toS_mem hx
  exact h t ht
theorem Gok.tl {M : Int} {x : Term} {ts : List Term} (h : Gok M (toS (x :: ts))) : Gok M (toS ts) := ⟨(List.pairwise_cons.1 h.srt).2, fun y hy => h.key y (List.mem_cons_of_mem _ hy), fun y hy => h.val y (List.mem_cons_of_mem _ hy)⟩
theorem Gok.hd {M : Int} {x : Term} {ts : List Term} (h : Gok M (toS (x :: ts))) : ∀ y ∈ ts, before x.mono y.mono = true := fun y hy => (List.pairwise_cons.1 h.srt).1 (y.mono, y.fac) (List.mem_map.2 ⟨y, hy, rfl⟩)
theorem cf_cons (x : Term) (ts : List Term) (p : Pw) : cf (toS (x :: ts)) p = if x.mono = p then x.fac else cf (toS ts) p := rfl
theorem fld0 : fld 0 = 0 := by rw [fld_eq]; rfl
theorem fld_id {x : Int} (h : 0 ≤ x ∧ x ≤ 10006) : fld x = x := by rw [fld_eq]; omega
theorem cf_mrg (k : Int) (p : Pw) {M N : Int} : ∀ (f g : List Term), Gok M (toS f) → Gok N (toS g) → cf (toS (mrg k f g)) p = fld (cf (toS f) p + fld (k * cf (toS g) p))
  | [], [], _, _ => by
    rw [mrg]
    show (0 : Int) = fld (0 + fld (k * 0))
    rw [Int.mul_zero, fld0]
    exact fld0.symm
  | x :: f, [], hf, hg => by
    rw [mrg, cf_cons, cf_cons, cf_mrg k p f [] hf.tl hg]
    have e0 : cf (toS []) p = 0 := rfl
    rw [e0, Int.mul_zero, fld0]
    split
    · rw [Int.add_zero, fld_id (hf.val (x.mono, x.fac) (List.mem_cons_self))]
    · rfl
  | [], y :: g, hf, hg => by
    have ih := cf_mrg k p [] g hf hg.tl
    have e0 : cf (toS []) p = 0 := rfl
    rw [e0, Int.zero_add] at ih ⊢
    have ng : y.mono = p → cf (toS g) p = 0 := fun e => cf_toS_none fun t ht e2 => before_ne (hg.hd t ht) (e.trans e2.symm)
    have ff : ∀ a, fld (fld a) = fld a := fun a => fld_id (fld_bd a)
    rw [mrg, cf_cons]
    by_cases e : y.mono = p
    · rw [if_pos e, ff]
      split
      · rename_i hz
        rw [ih, ng e, Int.mul_zero, fld0, fld0, hz]
      · rw [cf_cons, if_pos e]
    · rw [if_neg e]
      split
      · exact ih
      · rw [cf_cons, if_neg e, ih]
  | x :: f, y :: g, hf, hg => by
    have i1 := cf_mrg k p f (y :: g) hf.tl hg
    have i2 := cf_mrg k p (x :: f) g hf hg.tl
    have i3 := cf_mrg k p f g hf.tl hg.tl
    have vx := hf.val (x.mono, x.fac) (List.mem_cons_self)
    have ff : ∀ a, fld (fld a) = fld a := fun a => fld_id (fld_bd a)
    have nf : x.mono = p → cf (toS f) p = 0 := fun e => cf_toS_none fun t ht e2 => before_ne (hf.hd t ht) (e.trans e2.symm)
    have ng : y.mono = p → cf (toS g) p = 0 := fun e => cf_toS_none fun t ht e2 => before_ne (hg.hd t ht) (e.trans e2.symm)
    rw [mrg]
    split
    · rename_i hb
      rw [cf_cons, cf_cons, i1]
      by_cases e : x.mono = p
      · rw [if_pos e, if_pos e]
        have : cf (toS (y :: g)) p = 0 := cf_toS_none fun t ht e2 => by
          rcases List.mem_cons.1 ht with rfl | ht
          · exact before_ne hb (e.trans e2.symm)
          · exact before_ne (before_tr hb (hg.hd t ht)) (e.trans e2.symm)
        rw [this, Int.mul_zero, fld0, Int.add_zero, fld_id vx]
      · rw [if_neg e, if_neg e]
    · split
      · rename_i hb
        have nx : y.mono = p → cf (toS (x :: f)) p = 0 := fun e => cf_toS_none fun t ht e2 => by
          rcases List.mem_cons.1 ht with rfl | ht
          · exact before_ne hb (e.trans e2.symm)
          · exact before_ne (before_tr hb (hf.hd t ht)) (e.trans e2.symm)
        rw [cf_cons y]
        by_cases e : y.mono = p
        · rw [if_pos e, nx e, Int.zero_add, ff]
          split
          · rename_i hz
            rw [i2, nx e, ng e, Int.mul_zero, fld0, Int.zero_add, fld0, hz]
          · rw [cf_cons, if_pos e]
        · rw [if_neg e]
          split
          · exact i2
          · rw [cf_cons, if_neg e, i2]
      · rename_i h1 h2
        have exy : x.mono = y.mono := before_tot (hf.key (x.mono, x.fac) (List.mem_cons_self)).len (hg.key (y.mono, y.fac) (List.mem_cons_self)).len (by simpa using h1) (by simpa using h2)
        rw [cf_cons x, cf_cons y]
        by_cases e : x.mono = p
        · have e' : y.mono = p := exy.symm.trans e
          rw [if_pos e, if_pos e']
          split
          · rename_i hz
            rw [i3, nf e, ng e', Int.mul_zero, fld0, Int.zero_add, fld0, hz]
          · rw [cf_cons, if_pos e]
        · have e' : ¬ y.mono = p := fun h => e (exy.trans h)
          rw [if_neg e, if_neg e']
          split
          · exact i3
          · rw [cf_cons, if_neg e, i3]
termination_by f g => f.length + g.length
theorem Gok.mono {M M' : Int} {s : Sm} (h : Gok M s) (hM : M ≤ M') : Gok M' s := ⟨h.srt, fun x hx => (h.key x hx).mono hM, h.val⟩
theorem srt_cons {x : Term} {ts : List Term} (h : ∀ y ∈ ts, before x.mono y.mono = true) (h2 : (toS ts).Pairwise fun x y => before x.1 y.1 = true) : (toS (x :: ts)).Pairwise fun x y => before x.1 y.1 = true :=
  List.pairwise_cons.2 ⟨fun z hz => by
    obtain ⟨t, ht, rfl⟩ := toS_mem hz
    exact h t ht, h2⟩
theorem mrg_srt (k : Int) {M N : Int} : ∀ (f g : List Term), Gok M (toS f) → Gok N (toS g) → (toS (mrg k f g)).Pairwise fun x y => before x.1 y.1 = true
  | [], [], _, _ => by rw [mrg]; exact List.Pairwise.nil
  | x :: f, [], hf, hg => by
    rw [mrg]
    refine srt_cons (fun z hz => ?_) (mrg_srt k f [] hf.tl hg)
    obtain ⟨y, hy, e⟩ := mrg_mem k f [] z hz
    rw [e]
    rcases hy with hy | hy
    · exact hf.hd y hy
    · simp at hy
  | [], y :: g, hf, hg => by
    have ih := mrg_srt k [] g hf hg.tl
    rw [mrg]
    split
    · exact ih
    · refine srt_cons (fun z hz => ?_) ih
      obtain ⟨w, hw, e⟩ := mrg_mem k [] g z hz
      rw [e]
      rcases hw with hw | hw
      · simp at hw
      · exact hg.hd w hw
  | x :: f, y :: g, hf, hg => by
    have i1 := mrg_srt k f (y :: g) hf.tl hg
    have i2 := mrg_srt k (x :: f) g hf hg.tl
    have i3 := mrg_srt k f g hf.tl hg.tl
    rw [mrg]
    split
    · rename_i hb
      refine srt_cons (fun z hz => ?_) i1
      obtain ⟨w, hw, e⟩ := mrg_mem k f (y :: g) z hz
      rw [e]
      rcases hw with hw | hw
      · exact hf.hd w hw
      · rcases List.mem_cons.1 hw with rfl | hw
        · exact hb
        · exact before_tr hb (hg.hd w hw)
    · split
      · rename_i hb
        split
        · exact i2
        · refine srt_cons (fun z hz => ?_) i2
          obtain ⟨w, hw, e⟩ := mrg_mem k (x :: f) g z hz
          rw [e]
          rcases hw with hw | hw
          · rcases List.mem_cons.1 hw with rfl | hw
            · exact hb
            · exact before_tr hb (hf.hd w hw)
          · exact hg.hd w hw
      · rename_i h1 h2
        have exy : x.mono = y.mono := before_tot (hf.key (x.mono, x.fac) (List.mem_cons_self)).len (hg.key (y.mono, y.fac) (List.mem_cons_self)).len (by simpa using h1) (by simpa using h2)
        split
        · exact i3
        · refine srt_cons (fun z hz => ?_) i3
          obtain ⟨w, hw, e⟩ := mrg_mem k f g z hz
          show before x.mono z.mono = true
          rw [e]
          rcases hw with hw | hw
          · exact hf.hd w hw
          · rw [exy]; exact hg.hd w hw
termination_by f g => f.length + g.length
theorem mrg_val (k : Int) : ∀ (f g : List Term), (∀ x ∈ f, 1 ≤ x.fac ∧ x.fac ≤ 10006) → ∀ z ∈ mrg k f g, 1 ≤ z.fac ∧ z.fac ≤ 10006
  | [], [], _, z, hz => by simp [mrg] at hz
  | x :: f, [], h, z, hz => by
    rw [mrg] at hz
    rcases List.mem_cons.1 hz with rfl | hz
    · exact h _ (by simp)
    · exact mrg_val k f [] (fun x hx => h x (by simp [hx])) z hz
  | [], y :: g, h, z, hz => by
    have ih := mrg_val k [] g h z
    rw [mrg] at hz
    split at hz
    · exact ih hz
    · rename_i hn
      rcases List.mem_cons.1 hz with rfl | hz
      · have := fld_bd (k * y.fac); show 1 ≤ fld (k * y.fac) ∧ fld (k * y.fac) ≤ 10006; omega
      · exact ih hz
  | x :: f, y :: g, h, z, hz => by
    have i1 := mrg_val k f (y :: g) (fun x hx => h x (by simp [hx])) z
    have i2 := mrg_val k (x :: f) g h z
    have i3 := mrg_val k f g (fun x hx => h x (by simp [hx])) z
    rw [mrg] at hz
    split at hz
    · rcases List.mem_cons.1 hz with rfl | hz
      · exact h _ (by simp)
      · exact i1 hz
    · split at hz
      · split at hz
        · exact i2 hz
        · rename_i hn
          rcases List.mem_cons.1 hz with rfl | hz
          · have := fld_bd (k * y.fac); show 1 ≤ fld (k * y.fac) ∧ fld (k * y.fac) ≤ 10006; omega
          · exact i2 hz
      · split at hz
        · exact i3 hz
        · rename_i hn
          rcases List.mem_cons.1 hz with rfl | hz
          · have := fld_bd (x.fac + fld (k * y.fac)); show 1 ≤ fld (x.fac + fld (k * y.fac)) ∧ fld (x.fac + fld (k * y.fac)) ≤ 10006; omega
          · exact i3 hz
termination_by f g => f.length + g.length
theorem mrg_sok {k M : Int} {f g : List Term} (hf : Sok M (toS f)) (hg : Gok M (toS g)) : Sok M (toS (mrg k f g)) := by
  refine ⟨mrg_srt k f g hf.g hg, fun x hx => ?_, fun x hx => ?_⟩
  · obtain ⟨t, ht, rfl⟩ := toS_mem hx
    obtain ⟨y, hy, e⟩ := mrg_mem k f g t ht
    show Pok M t.mono
    rw [e]
    rcases hy with hy | hy
    · exact hf.key (y.mono, y.fac) (List.mem_map.2 ⟨y, hy, rfl⟩)
    · exact hg.key (y.mono, y.fac) (List.mem_map.2 ⟨y, hy, rfl⟩)
  · obtain ⟨t, ht, rfl⟩ := toS_mem hx
    exact mrg_val k f g (fun x hx => hf.val (x.mono, x.fac) (List.mem_map.2 ⟨x, hx, rfl⟩)) t ht
theorem tot_scl (k : Int) (p : Pw) : ∀ {t : Sm}, (t.map (·.1)).Nodup → tot_ (scl t k) p = (cf t p * k).tmod 10007
  | [], _ => by simp [scl, tot_, cf]
  | x :: t, hn => by
    simp only [List.map_cons, List.nodup_cons] at hn
    have ih := tot_scl k p hn.2
    unfold scl at ih ⊢
    simp only [List.map_cons, tot_, cf]
    by_cases e : x.1 = p
    · rw [if_pos e, if_pos e, ih, cf_none fun z hz e2 => hn.1 (by rw [e, ← e2]; exact List.mem_map.2 ⟨z, hz, rfl⟩)]
      simp
    · rw [if_neg e, if_neg e, ih, Int.zero_add]
theorem Gok.nodup {M : Int} {s : Sm} (h : Gok M s) : (s.map (·.1)).Nodup := by
  rw [List.Nodup, List.pairwise_map]
  exact h.srt.imp fun h => before_ne h
theorem Gok.scl {M : Int} {s : Sm} (h : Gok M s) (k : Int) : ∀ z ∈ scl s k, Pok M z.1 := fun z hz => by
  obtain ⟨y, hy, e⟩ := scl_key hz
  rw [e]
  exact h.key y hy
theorem mrg_acc {k M : Int} {f g : List Term} (hf : Sok M (toS f)) (hg : Gok M (toS g)) : mrg k f g = ofS (acc (toS f) (scl (toS g) k)) := by
  have e : toS (mrg k f g) = acc (toS f) (scl (toS g) k) := Sok.ext (mrg_sok hf hg) (hf.acc (hg.scl k)) fun p => by
    rw [cf_mrg k p f g hf.g hg, cf_acc p hf (hg.scl k), tot_scl k p hg.nodup, fld_tmod, Int.mul_comm]
    have := fld_eq (cf (toS f) p + fld (cf (toS g) p * k))
    rw [fld_eq (cf (toS f) p + fld (cf (toS g) p * k)), fld_eq (cf (toS f) p + cf (toS g) p * k), fld_eq (cf (toS g) p * k)]
    omega
  rw [← e, ofS_toS]
theorem drop_tm {f : List Term} {i : Nat} (hi : i < f.length) : f.drop i = tm f i :: f.drop (i + 1) := by
  rw [List.drop_eq_getElem_cons hi]
  simp [tm, List.getD_eq_getElem?_getD, List.getElem?_eq_getElem hi]
theorem mrgA1 {k : Int} {f g : List Term} {i j : Nat} (hi : i < f.length) (hj : j = g.length) : mrg k (f.drop i) (g.drop j) = tm f i :: mrg k (f.drop (i + 1)) (g.drop j) := by
  rw [drop_tm hi, List.drop_of_length_le (Nat.le_of_eq hj.symm), mrg]
theorem mrgA2 {k : Int} {f g : List Term} {i j : Nat} (hi : i < f.length) (hj : j < g.length) (hb : before (tm f i).mono (tm g j).mono = true) : mrg k (f.drop i) (g.drop j) = tm f i :: mrg k (f.drop (i + 1)) (g.drop j) := by
  rw [drop_tm hi, drop_tm hj, mrg, if_pos hb]
theorem mrgB1 {k : Int} {f g : List Term} {i j : Nat} (hi : i = f.length) (hj : j < g.length) : mrg k (f.drop i) (g.drop j) = if fld (k * (tm g j).fac) = 0 then mrg k (f.drop i) (g.drop (j + 1)) else ⟨(tm g j).mono, fld (k * (tm g j).fac)⟩ :: mrg k (f.drop i) (g.drop (j + 1)) := by
  rw [drop_tm hj, List.drop_of_length_le (Nat.le_of_eq hi.symm), mrg]
theorem mrgB2 {k : Int} {f g : List Term} {i j : Nat} (hi : i < f.length) (hj : j < g.length) (h1 : ¬ before (tm f i).mono (tm g j).mono = true) (h2 : before (tm g j).mono (tm f i).mono = true) : mrg k (f.drop i) (g.drop j) = if fld (k * (tm g j).fac) = 0 then mrg k (f.drop i) (g.drop (j + 1)) else ⟨(tm g j).mono, fld (k * (tm g j).fac)⟩ :: mrg k (f.drop i) (g.drop (j + 1)) := by
  rw [drop_tm hi, drop_tm hj, mrg, if_neg h1, if_pos h2]
theorem mrgC {k : Int} {f g : List Term} {i j : Nat} (hi : i < f.length) (hj : j < g.length) (h1 : ¬ before (tm f i).mono (tm g j).mono = true) (h2 : ¬ before (tm g j).mono (tm f i).mono = true) : mrg k (f.drop i) (g.drop j) = if fld ((tm f i).fac + fld (k * (tm g j).fac)) = 0 then mrg k (f.drop (i + 1)) (g.drop (j + 1)) else ⟨(tm f i).mono, fld ((tm f i).fac + fld (k * (tm g j).fac))⟩ :: mrg k (f.drop (i + 1)) (g.drop (j + 1)) := by
  rw [drop_tm hi, drop_tm hj, mrg, if_neg h1, if_neg h2]
theorem mrg_nn (k : Int) : mrg k [] [] = [] := by rw [mrg]
def MgAt (k : Int) (f g O : List Term) (i j : Nat) : Prop := O ++ mrg k (f.drop i) (g.drop j) = mrg k f g
theorem MgAt.app {k : Int} {f g O : List Term} {i j i' j' : Nat} (h : MgAt k f g O i j) {t : Term} (e : mrg k (f.drop i) (g.drop j) = t :: mrg k (f.drop i') (g.drop j')) : MgAt k f g (O ++ [t]) i' j' := by
  unfold MgAt at h ⊢
  rw [e] at h
  rw [List.append_assoc]
  exact h
theorem MgAt.skip {k : Int} {f g O : List Term} {i j i' j' : Nat} (h : MgAt k f g O i j) (e : mrg k (f.drop i) (g.drop j) = mrg k (f.drop i') (g.drop j')) : MgAt k f g O i' j' := by
  unfold MgAt at h ⊢
  rw [e] at h
  exact h
theorem MgAt.len {k : Int} {f g O : List Term} {i j : Nat} (h : MgAt k f g O i j) : O.length ≤ f.length + g.length := by
  have h1 := mrg_len k f g
  have h2 := congrArg List.length h
  rw [List.length_append] at h2
  omega
theorem mrg_wf {k : Int} {f g : List Term} {M : Int} (hf : Sok M (toS f)) (hg : Gok M (toS g)) (hM : M ≤ 255) : Wfs (mrg k f g) := by
  have := (mrg_sok (k := k) hf hg).wf hM
  rwa [ofS_toS] at this
theorem MgAt.wf {k : Int} {f g O : List Term} {i j : Nat} (h : MgAt k f g O i j) (hw : Wfs (mrg k f g)) : Wfs O := fun t ht => hw t (by rw [← h]; simp [ht])
end Go.Proofs.YtbjhllmcnfncdaaDoor.G
