/- The differential of a sum. No condition. -/
import Derived.Test.YtpojpokldncglaaGMap
import Derived.Test.YtpojpokldncglaaProg
import Derived.Test.YtpojpokldncglaaWa
import Derived.Test.YtpojpokldncglaaWb
import Derived.Test.YtpojpokldncglaaWc
import Derived.Test.YtpojpokldncglaaWd
import Derived.Test.YtpojpokldncglaaWe
import Derived.Test.YtpojpokldncglaaWf
import Derived.Test.YtpojpokldncglaaWg
import Derived.Test.YtpojpokldncglaaWh
import Derived.Test.YtpojpokldncglaaWi
import Derived.Test.YtpojpokldncglaaWj
import Derived.Test.YtpojpokldncglaaWk
import Derived.Test.YtpojpokldncglaaWl
import Derived.Test.YtpojpokldncglaaWm
import Derived.Test.YtpojpokldncglaaWn
import Derived.Test.YtpojpokldncglaaWo
import Derived.Test.YtpojpokldncglaaWp
import Derived.Test.YtpojpokldncglaaXa
import Derived.Test.YtpojpokldncglaaXb
import Derived.DeepKeys4
import Derived.Test.YtpojpokldncglaaXc
import Derived.Test.YtpojpokldncglaaXd
import Derived.Test.YtpojpokldncglaaXe
import Derived.Test.YtpojpokldncglaaXf
import Derived.Test.YtpojpokldncglaaXg
import Derived.Test.YtpojpokldncglaaXh
set_option linter.unusedVariables false
set_option linter.unusedSimpArgs false
namespace Go.Proofs.Ytpojpokldncglaa.G
open Go Go.RowKit
namespace Xi
theorem u107 : Try.prog.underlying 107 = some (TypeDesc.map 94 2) := by kernel_rfl
theorem u152 : Try.prog.underlying 152 = some (TypeDesc.array 8 107) := by kernel_rfl
theorem u2 : Try.prog.underlying 2 = some (TypeDesc.int .i64) := by kernel_rfl
theorem u22 : Try.prog.underlying 22 = some (TypeDesc.slice 2) := by kernel_rfl
theorem u3 : Try.prog.underlying 3 = some (TypeDesc.int .i64) := by kernel_rfl
theorem u41 : Try.prog.underlying 41 = some (TypeDesc.struct #[{ name := "Degrees", type := 22, offset := 0, embedded := false, tag := "", pkgPath := "", byteOffset := 0 }, { name := "Images", type := 39, offset := 1, embedded := false, tag := "", pkgPath := "", byteOffset := 24 }]) := by kernel_rfl
theorem u94 : Try.prog.underlying 94 = some (TypeDesc.array 8 3) := by kernel_rfl
theorem sz107 : Size Try.prog 107 1 := by unfold Size; kernel_rfl
theorem sz152 : Size Try.prog 152 8 := by unfold Size; kernel_rfl
theorem sz2 : Size Try.prog 2 1 := by unfold Size; kernel_rfl
theorem sz22 : Size Try.prog 22 1 := by unfold Size; kernel_rfl
theorem sz3 : Size Try.prog 3 1 := by unfold Size; kernel_rfl
theorem sz94 : Size Try.prog 94 8 := by unfold Size; kernel_rfl
theorem ze152 : Zero Try.prog 152 [.map none, .map none, .map none, .map none, .map none, .map none, .map none, .map none] := by unfold Zero; kernel_rfl
theorem ze94 : Zero Try.prog 94 [.int .i64 0, .int .i64 0, .int .i64 0, .int .i64 0, .int .i64 0, .int .i64 0, .int .i64 0, .int .i64 0] := by unfold Zero; kernel_rfl
theorem bz94 : ∀ w, (Instr.build 94 #[]).run Try.prog w = .ok (.agg [.int .i64 0, .int .i64 0, .int .i64 0, .int .i64 0, .int .i64 0, .int .i64 0, .int .i64 0, .int .i64 0].toArray) w := fun _ => by kernel_rfl
theorem pl107 : Plain Try.prog 107 := ⟨_, u107, rfl⟩
theorem pl2 : Plain Try.prog 2 := ⟨_, u2, rfl⟩
theorem pl22 : Plain Try.prog 22 := ⟨_, u22, rfl⟩
theorem pl3 : Plain Try.prog 3 := ⟨_, u3, rfl⟩
theorem ag94 : Agg Try.prog 94 8 := ⟨_, u94, rfl, by kernel_rfl⟩
theorem fn144 : Fn Try.prog 144 := ⟨_, Try.func144, by kernel_rfl, rfl⟩
theorem fn145 : Fn Try.prog 145 := ⟨_, Try.func145, by kernel_rfl, rfl⟩
theorem fn146 : Fn Try.prog 146 := ⟨_, Try.func146, by kernel_rfl, rfl⟩
theorem fn147 : Fn Try.prog 147 := ⟨_, Try.func147, by kernel_rfl, rfl⟩
theorem foll0 : Try.prog.follows .mixedOrders = true := by kernel_rfl
end Xi
open Xi

def aheadP (p : Pw) (i : Nat) : Pw := (List.range 8).map fun j => if j < i then p.getD j 0 else 0
def leftP (p : Pw) (i : Nat) : Pw := (aheadP p i).set i (p.getD i 0 - 1)
def behP (p : Pw) (k : Nat) : Pw := (List.range 8).map fun j => if j < k then 0 else p.getD j 0
@[simp] theorem aheadP_len (p : Pw) (i : Nat) : (aheadP p i).length = 8 := by simp [aheadP]
@[simp] theorem leftP_len (p : Pw) (i : Nat) : (leftP p i).length = 8 := by simp [leftP]
@[simp] theorem behP_len (p : Pw) (k : Nat) : (behP p k).length = 8 := by simp [behP]
theorem aheadP_get {p : Pw} {i j : Nat} (h : j < 8) : (aheadP p i).getD j 0 = if j < i then p.getD j 0 else 0 := by simp [aheadP, List.getD_eq_getElem?_getD, h]
theorem behP_get {p : Pw} {k j : Nat} (h : j < 8) : (behP p k).getD j 0 = if j < k then 0 else p.getD j 0 := by simp [behP, List.getD_eq_getElem?_getD, h]
theorem getD_set8 {p : Pw} {i j : Nat} {x : Int} : (p.set i x).getD j 0 = if i = j ∧ i < p.length then x else p.getD j 0 := by
  rw [List.getD_eq_getElem?_getD, List.getD_eq_getElem?_getD, List.getElem?_set]
  by_cases e : i = j
  · subst e
    by_cases h : i < p.length
    · simp [h]
    · simp [h]
  · simp [e]
theorem list8 {p q : Pw} (hp : p.length = 8) (hq : q.length = 8) (h : ∀ j, j < 8 → p.getD j 0 = q.getD j 0) : p = q := list_eq_of (by omega) fun j hj => h j (by omega)
theorem aheadP_zero (p : Pw) : aheadP p 0 = List.replicate 8 0 := list8 (by simp) (by simp) fun j hj => by
  rw [aheadP_get hj, if_neg (by omega), List.getD_eq_getElem?_getD, List.getElem?_replicate, if_pos hj]
  rfl
theorem aheadP_set {p : Pw} {i : Nat} (hi : i < 8) : (aheadP p i).set i (p.getD i 0) = aheadP p (i + 1) := list8 (by simp) (by simp) fun j hj => by
  rw [getD_set8, aheadP_get hj, aheadP_get hj]
  by_cases e : i = j
  · subst e
    rw [if_pos ⟨rfl, by simpa using hi⟩, if_pos (by omega)]
  · rw [if_neg fun h => e h.1]
    by_cases h : j < i
    · rw [if_pos h, if_pos (by omega)]
    · rw [if_neg h, if_neg (by omega)]
theorem behP_zero {p : Pw} (hp : p.length = 8) : behP p 0 = p := list8 (by simp) hp fun j hj => by rw [behP_get hj, if_neg (by omega)]
theorem behP_set {p : Pw} {k : Nat} (hk : k < 8) : (behP p k).set k 0 = behP p (k + 1) := list8 (by simp) (by simp) fun j hj => by
  rw [getD_set8, behP_get hj, behP_get hj]
  by_cases e : k = j
  · subst e
    rw [if_pos ⟨rfl, by simpa using hk⟩, if_pos (by omega)]
  · rw [if_neg fun h => e h.1]
    by_cases h : j < k
    · rw [if_pos h, if_pos (by omega)]
    · rw [if_neg h, if_neg (by omega)]
theorem behP_pok {M : Int} {p : Pw} (h : Pok M p) (k : Nat) : Pok M (behP p k) := ⟨by simp, fun j => by
  have := h.bd j
  rcases Nat.lt_or_ge j 8 with hj | hj
  · rw [behP_get hj]
    split <;> omega
  · rw [getD_ge (by simp; omega)]
    omega⟩
theorem leftP_pok {M : Int} {p : Pw} (h : Pok M p) {i : Nat} (hi : 0 < p.getD i 0) : Pok M (leftP p i) := ⟨by simp, fun j => by
  have h1 := h.bd j
  have h2 := h.bd i
  unfold leftP
  rw [getD_set8]
  split
  · omega
  · rcases Nat.lt_or_ge j 8 with hj | hj
    · rw [aheadP_get hj]
      split <;> omega
    · rw [getD_ge (by simp; omega)]
      omega⟩
/-- the sign behind i generators -/
def dsg (ds p : Pw) : Nat → Int
  | 0 => 1
  | i + 1 => if i < ds.length ∧ (ds.getD i 0).tmod 2 = 1 ∧ (p.getD i 0).tmod 2 = 1 then 0 - dsg ds p i else dsg ds p i
theorem dsg_bd (ds p : Pw) : ∀ i : Nat, -1 ≤ dsg ds p i ∧ dsg ds p i ≤ 1
  | 0 => by simp [dsg]
  | i + 1 => by
    have := dsg_bd ds p i
    simp only [dsg]
    split <;> omega
theorem dsg_yes {ds p : Pw} {i : Nat} (h1 : (i : Int) < ds.length) (h2 : (ds.getD i 0).tmod 2 = 1) (h3 : (p.getD i 0).tmod 2 = 1) : 0 - dsg ds p i = dsg ds p (i + 1) := by simp only [dsg]; rw [if_pos ⟨by omega, h2, h3⟩]
theorem dsg_no {ds p : Pw} {i : Nat} (h : ¬ ((i : Int) < ds.length ∧ (ds.getD i 0).tmod 2 = 1 ∧ (p.getD i 0).tmod 2 = 1)) : dsg ds p i = dsg ds p (i + 1) := by simp only [dsg]; rw [if_neg fun h' => h ⟨by omega, h'.2⟩]
def dT (ds : Pw) (im : Sm) (p : Pw) (i : Nat) : Sm := timesS ds (timesS ds [(leftP p i, 1)] im) [(behP p (i + 1), 1)]
def dP (ds : Pw) (fs : List (List Term)) (x : Pw × Int) (i : Nat) : Sm := if 0 < x.1.getD i 0 then scl (dT ds (toS (fm fs i)) x.1 i) (fld (dsg ds x.1 i * x.2 * x.1.getD i 0)) else []
def dLk (ds : Pw) (fs : List (List Term)) (x : Pw × Int) (k : Nat) : Sm := (List.range k).flatMap (dP ds fs x)
def dAll (ds : Pw) (fs : List (List Term)) (s : Sm) : Sm := s.flatMap fun x => dLk ds fs x 8
def dS (ds : Pw) (fs : List (List Term)) (s : Sm) : Sm := acc [] (dAll ds fs s)
theorem dLk_succ (ds : Pw) (fs : List (List Term)) (x : Pw × Int) (k : Nat) : dLk ds fs x (k + 1) = dLk ds fs x k ++ dP ds fs x k := by
  unfold dLk
  rw [List.range_succ, List.flatMap_append]
  simp
theorem dT_sok {ds : Pw} {im : Sm} {p : Pw} {i : Nat} {M N : Int} (hp : Pok M p) (hi : 0 < p.getD i 0) (hm : Sok N im) : Sok (M + N + M) (dT ds im p i) :=
  ((Sok.one (leftP_pok hp hi) (by omega)).times hm).times (Sok.one (behP_pok hp (i + 1)) (by omega))
theorem dP_pok {ds : Pw} {fs : List (List Term)} {x : Pw × Int} {i : Nat} {M N : Int} (hp : Pok M x.1) (hf : Fok N fs) (hz : 0 < x.1.getD i 0 → i < fs.length) : ∀ z ∈ dP ds fs x i, Pok (M + N + M) z.1 := fun z hz' => by
  unfold dP at hz'
  split at hz'
  · rename_i h
    exact scl_pok (dT_sok hp h (hf i (hz h)).1) _ z hz'
  · simp at hz'
theorem dLk_pok {ds : Pw} {fs : List (List Term)} {x : Pw × Int} {k : Nat} {M N : Int} (hp : Pok M x.1) (hf : Fok N fs) (hz : ∀ i, 0 < x.1.getD i 0 → i < fs.length) : ∀ z ∈ dLk ds fs x k, Pok (M + N + M) z.1 := fun z hz' => by
  obtain ⟨i, _, h⟩ := List.mem_flatMap.1 hz'
  exact dP_pok hp hf (hz i) z h
/-- the generators that occur are there -/
def Occ (n : Nat) (s : Sm) : Prop := ∀ x ∈ s, ∀ i, 0 < x.1.getD i 0 → i < n
theorem dAll_pok {ds : Pw} {fs : List (List Term)} {s : Sm} {M N : Int} (hs : Sok M s) (hf : Fok N fs) (ho : Occ fs.length s) : ∀ z ∈ dAll ds fs s, Pok (M + N + M) z.1 := fun z hz => by
  obtain ⟨x, hx, h⟩ := List.mem_flatMap.1 hz
  exact dLk_pok (hs.key x hx) hf (ho x hx) z h
theorem dS_sok {ds : Pw} {fs : List (List Term)} {s : Sm} {M N : Int} (hs : Sok M s) (hf : Fok N fs) (ho : Occ fs.length s) : Sok (M + N + M) (dS ds fs s) := Sok.nil.acc (dAll_pok hs hf ho)
theorem dAll_mid {ds : Pw} {fs : List (List Term)} {l1 l2 : Sm} {x : Pw × Int} : (dAll ds fs (l1 ++ x :: l2)).Perm (dLk ds fs x 8 ++ dAll ds fs (l1 ++ l2)) := by
  have h : (dAll ds fs (l1 ++ x :: l2)).Perm (dAll ds fs (x :: (l1 ++ l2))) := (List.perm_middle).flatMap_right _
  exact h
theorem acc_dP {ds : Pw} {fs : List (List Term)} {x : Pw × Int} {k : Nat} {dn : Sm} (h : 0 < x.1.getD k 0) : acc (acc [] (dn ++ dLk ds fs x k)) (scl (dT ds (toS (fm fs k)) x.1 k) (fld (dsg ds x.1 k * x.2 * x.1.getD k 0))) = acc [] (dn ++ dLk ds fs x (k + 1)) := by
  rw [dLk_succ, ← List.append_assoc, acc_app _ (dn ++ dLk ds fs x k)]
  unfold dP
  rw [if_pos h]
theorem acc_dN {ds : Pw} {fs : List (List Term)} {x : Pw × Int} {k : Nat} (h : ¬ 0 < x.1.getD k 0) : dLk ds fs x k = dLk ds fs x (k + 1) := by
  rw [dLk_succ]
  unfold dP
  rw [if_neg h, List.append_nil]

set_option maxHeartbeats 8000000 in
set_option maxRecDepth 10000 in
theorem d_c {B : World} {H0 H : HP} {L : List SA} {w : World} {ba : Nat} {qad qaf : Option Addr} {cad caf : Nat} {ad : List Int} {af : List (List Term)} {vs : Value} {Ms : Int} {s : Sm} {Mi : Int} (pad : CellAt H ba 0 (.slice qad ad.length cad)) (paf : CellAt H ba 1 (.slice qaf af.length caf)) (had : Ints H qad ad) (haf : Forms H qaf af) (hs : SumH H vs s) (ks : Sok Ms s) (hn : ad.length ≤ 8) (hd : ∀ j, 0 ≤ ad.getD j 0 ∧ ad.getD j 0 ≤ 12) (hf : Fok Mi af) (hl : af.length = ad.length) (ho : Occ af.length s) (hM : 0 ≤ Mi ∧ Ms + Mi + Ms ≤ 1000000) (hH : Hp B H0 H L w) :
    Calls Try.prog 95 [.pointer (some ⟨ba, 0, none⟩), vs].toArray w fun e w' => ∃ b, e = .returned (.map (some b)) ∧ Hp B H0 H (osum b (dS ad af s) :: L) w' := by
  refine CJ.enter Try.func95 rfl 107 rfl rfl [(0, .pointer (some ⟨ba, 0, none⟩)), (1, vs)] rfl hH ?_
  have hw0 := hH.old
  have hw1 := hH.le
  clear hH
  refine CJ.seq fun _ hK1 _ => ?_
  refine CJ.region ?_
  refine J.p (PR.assign rfl) rfl ?_
  refine J.nil ?_
  refine EJ.thenN (hK1 ?_)
  refine CJ.seq fun _ hK2 _ => ?_
  refine CJ.region ?_
  refine J.makeMap pwE (Value.int .i64) pwOk rfl fun bm17 => ?_
  refine J.p (PR.move rfl) rfl ?_
  refine J.call fn144 rfl rfl fun w hH => (images_c pad paf had haf hf (by omega) hH).mono ?_
  rintro _ w ⟨bs19, rfl, hH⟩
  refine ⟨_, rfl, fun a hF => J.of hF hH ?_⟩
  refine J.alloc ze152 rfl fun g6 => ?_
  refine J.p (PR.assign rfl) rfl ?_
  refine J.storeAll rfl rfl (imgK_one _ _) (by simpa using sz152) (by simp) .z ?_
  refine J.fixA (.s .z) fun H6 hle6 hA6 => ?_
  replace pad := pad.le hle6
  replace paf := paf.le hle6
  replace had := had.le hle6
  replace haf := haf.le hle6
  replace hs := hs.le hle6
  obtain ⟨bs, ess, cls, rfl, hbs, hes⟩ := hs
  have hs : SumH H6 (.map (some bs)) s := ⟨bs, ess, cls, rfl, hbs, hes⟩
  refine J.nil ?_
  refine EJ.thenN (hK2 ?_)
  refine CJ.seq fun _ hK3 _ => ?_
  refine CJ.seq fun _ hK4 _ => ?_
  refine CJ.region ?_
  refine J.p (PR.move rfl) rfl ?_
  refine J.range u107 rfl hbs hes rfl fun r21 => ?_
  refine J.nil ?_
  refine EJ.thenN (hK4 ?_)
  refine CJ.block ?_
  refine CJ.loopU (σ := Option (Pw × Int) × Sm × Sm) (fun ⟨la, ls, dn⟩ => []) (fun ⟨la, ls, dn⟩ => H6) (fun ⟨la, ls, dn⟩ => itr pwE (Value.int .i64) bs ess cls r21 la ls :: obj g6 (.cells (imgK bs19 af.length).toArray 152 (0, 0)) :: osum bm17 (acc [] (dn)) :: L) (fun ⟨la, ls, dn⟩ => (dn ++ dAll ad af ls).Perm (dAll ad af s) ∧ ∀ x ∈ ls, x ∈ s) (fun ⟨la, ls, dn⟩ => ls.length) (none, s, []) ⟨List.Perm.refl _, fun _ h => h⟩ trivial rfl rfl ?_
  rintro ⟨la, ls, dn⟩ hI _ hAg0
  have k0 : Sok (Ms + Mi + Ms) (acc [] dn) := Sok.nil.acc fun x hx => dAll_pok ks hf ho x (hI.1.mem_iff.1 (by simp [hx]))
  refine CJ.seq fun _ hK5 _ => ?_
  refine CJ.region ?_
  refine J.next rfl hbs hes (fun _ _ => At.z) rfl (fun hE22 => ?_) (fun nx22 la22 lb22 hL22 => ?_)
  ·
    refine J.p (PR.extract rfl rfl) rfl ?_
    refine J.nil ?_
    refine EJ.thenN (hK5 ?_)
    refine CJ.seq fun _ hK6 _ => ?_
    refine CJ.condF rfl ?_
    refine CJ.exit ?_
    refine EJ.thenE ?_
    refine EJ.thenE ?_
    refine EJ.inE ?_
    refine EJ.thenN (hK3 ?_)
    refine CJ.seq fun _ hK7 _ => ?_
    refine CJ.region ?_
    refine J.p (PR.move rfl) rfl ?_
    refine J.p (PR.assign rfl) rfl ?_
    refine J.nil ?_
    refine EJ.thenN (hK7 ?_)
    refine CJ.ret ?_
    refine EJ.ret1 rfl (Res.tmp rfl) fun w hH => ?_
    replace hH := hH.sublist (.cons _ (.cons _ (.cons_cons _ (List.Sublist.refl _))))
    have hp9 := perm_nil hI.1 (by rw [hE22]; rfl)
    have e9 : acc [] dn = dS ad af s := acc_perm Sok.nil (fun x hx => dAll_pok ks hf ho x (hp9.mem_iff.1 hx)) hp9
    rw [e9] at hH
    exact ⟨_, rfl, hH.weaken hle6 hw0 hw1⟩
  ·
    subst hL22
    have hu := hI.2 nx22 (by simp)
    have hup := ks.key nx22 hu
    have hu8 := hup.len
    have hv := ks.val nx22 hu
    have hu0 := hup.bd 0
    refine J.p (PR.extract rfl rfl) rfl ?_
    refine J.nil ?_
    refine EJ.thenN (hK5 ?_)
    refine CJ.seq fun _ hK8 _ => ?_
    refine CJ.condT rfl ?_
    refine CJ.skip ?_
    refine EJ.thenN (hK8 ?_)
    refine CJ.block ?_
    refine CJ.seq fun _ hK9 _ => ?_
    refine CJ.region ?_
    refine J.p (PR.entry rfl hbs hes At.z) rfl ?_
    refine J.p (PR.extract rfl rfl) rfl ?_
    refine J.p (PR.extract rfl rfl) rfl ?_
    refine J.alloc ze94 rfl fun g7 => ?_
    refine J.storeAll rfl rfl (by first | exact bytesC_one _ | exact intsC_one _ | exact Term.c_one _ | simp [Value.oneCell']) (by simpa [*] using sz94) (by simp [*]) At.z ?_
    refine J.p (PR.assign rfl) rfl ?_
    refine J.nil ?_
    refine EJ.thenN (hK9 ?_)
    refine CJ.seq fun _ hK10 _ => ?_
    refine CJ.region ?_
    refine J.p (PR.buildZ bz94) rfl ?_
    refine J.alloc ze94 rfl fun g9 => ?_
    refine J.storeAll rfl rfl (by first | exact bytesC_one _ | exact intsC_one _ | exact Term.c_one _ | simp [Value.oneCell']) (by simpa [*] using sz94) (by simp [*]) At.z ?_
    refine J.p (PR.assign rfl) rfl ?_
    refine J.nil ?_
    refine EJ.thenN (hK10 ?_)
    refine CJ.seq fun _ hK11 _ => ?_
    refine CJ.region ?_
    refine J.p (PR.loadAll rfl (.s .z) (by simpa [*] using ag94)) rfl ?_
    refine J.p (PR.move rfl) rfl ?_
    refine J.nil ?_
    refine EJ.thenN (hK11 ?_)
    refine CJ.block ?_
    refine CJ.loopU (σ := Nat) (fun (i : Nat) => [(29, .int .i64 (i : Int)), (10, .int .i64 (dsg ad nx22.1 i))]) (fun (i : Nat) => H6) (fun (i : Nat) => obj g9 (.cells (intsC (aheadP nx22.1 i)).toArray 94 (0, 0)) :: obj g7 (.cells (intsC nx22.1).toArray 94 (0, 0)) :: itr pwE (Value.int .i64) bs ess cls r21 (some nx22) (la22 ++ lb22) :: obj g6 (.cells (imgK bs19 af.length).toArray 152 (0, 0)) :: osum bm17 (acc [] (dn ++ dLk ad af nx22 i)) :: L) (fun (i : Nat) => i ≤ 8) (fun (i : Nat) => 8 - i) 0 (by omega) ⟨rfl, ⟨rfl, trivial⟩⟩ rfl (by simp only [aheadP_zero, dLk, List.range_zero, List.flatMap_nil, List.append_nil]; rfl) ?_
    rintro i hi _ hAg1
    have k1 : Sok (Ms + Mi + Ms) (acc [] (dn ++ dLk ad af nx22 i)) := Sok.nil.acc fun x hx => by
                          rcases List.mem_append.1 hx with h | h
                          · exact dAll_pok ks hf ho x (hI.1.mem_iff.1 (by simp [h]))
                          · exact dLk_pok hup hf (ho nx22 hu) x h
    have sb := dsg_bd ad nx22.1 i
    have eb := hup.bd i
    refine CJ.seq fun _ hK12 _ => ?_
    refine CJ.region ?_
    refine J.p (PR.lss rfl rfl) rfl ?_
    refine J.nil ?_
    refine EJ.thenN (hK12 ?_)
    refine CJ.seq fun _ hK13 _ => ?_
    refine CJ.condD rfl (fun hc30 => ?_) (fun hc30 => ?_)
    ·
      refine CJ.skip ?_
      refine EJ.thenN (hK13 ?_)
      refine CJ.seq fun _ hK14 _ => ?_
      refine CJ.block ?_
      refine CJ.seq fun _ hK15 _ => ?_
      refine CJ.region ?_
      refine J.p (PR.move rfl) rfl ?_
      refine J.p (PR.index u94 sz3 pl3 rfl rfl rfl (by omega) (intsC_get (by omega))) rfl ?_
      refine J.p (PR.assign rfl) rfl ?_
      refine J.p (PR.assign rfl) rfl ?_
      refine J.nil ?_
      refine EJ.thenN (hK15 ?_)
      refine CJ.cutU (σ := Unit) (fun (_ : Unit) => [(11, .int .i64 (i : Int)), (12, .int .i64 (nx22.1.getD i 0))]) (fun (_ : Unit) => H6) (fun (_ : Unit) => obj g9 (.cells (intsC (aheadP nx22.1 i)).toArray 94 (0, 0)) :: obj g7 (.cells (intsC nx22.1).toArray 94 (0, 0)) :: itr pwE (Value.int .i64) bs ess cls r21 (some nx22) (la22 ++ lb22) :: obj g6 (.cells (imgK bs19 af.length).toArray 152 (0, 0)) :: osum bm17 (acc [] (dn ++ dLk ad af nx22 (i + 1))) :: L) (fun (_ : Unit) => True) ?_ ?_
      ·
        intro _ hMt1
        refine CJ.seq fun _ hK16 _ => ?_
        refine CJ.region ?_
        refine J.p (PR.move rfl) rfl ?_
        refine J.p (PR.gtr rfl rfl) rfl ?_
        refine J.nil ?_
        refine EJ.thenN (hK16 ?_)
        refine CJ.condD rfl (fun h34 => ?_) (fun h34 => ?_)
        ·
          have hil := ho nx22 hu i h34
          have hlp := leftP_pok hup h34
          have hbp := behP_pok hup (i + 1)
          have hts := dT_sok (ds := ad) hup h34 (hf i hil).1
          have mb := mul_sb (b := nx22.2) (B := 10006) sb (by omega)
          have mb2 := mul_sb (b := nx22.1.getD i 0) (B := 1000000) mb (by omega)
          have fb := fld_bd (dsg ad nx22.1 i * nx22.2 * nx22.1.getD i 0)
          refine CJ.seq fun _ hK17 _ => ?_
          refine CJ.region ?_
          refine J.p (PR.loadAll rfl (.s .z) (by simpa [*] using ag94)) rfl ?_
          refine J.alloc ze94 rfl fun g13 => ?_
          refine J.storeAll rfl rfl (by first | exact bytesC_one _ | exact intsC_one _ | exact Term.c_one _ | simp [Value.oneCell']) (by simpa [*] using sz94) (by simp [*]) At.z ?_
          refine J.nil ?_
          refine EJ.thenN (hK17 ?_)
          refine CJ.seq fun _ hK18 _ => ?_
          refine CJ.seq fun _ hK19 _ => ?_
          refine CJ.region ?_
          refine J.p (PR.move rfl) rfl ?_
          refine J.p (PR.add rfl rfl (by first | exact nw _ (by omega) | rfl)) rfl ?_
          refine J.p (PR.move rfl) rfl ?_
          refine J.nil ?_
          refine EJ.thenN (hK19 ?_)
          refine CJ.block ?_
          refine CJ.loopU (σ := Nat) (fun (k : Nat) => [(38, .int .i64 (k : Int))]) (fun (k : Nat) => H6) (fun (k : Nat) => obj g13 (.cells (intsC (behP nx22.1 k)).toArray 94 (0, 0)) :: obj g9 (.cells (intsC (aheadP nx22.1 i)).toArray 94 (0, 0)) :: obj g7 (.cells (intsC nx22.1).toArray 94 (0, 0)) :: itr pwE (Value.int .i64) bs ess cls r21 (some nx22) (la22 ++ lb22) :: obj g6 (.cells (imgK bs19 af.length).toArray 152 (0, 0)) :: osum bm17 (acc [] (dn ++ dLk ad af nx22 i)) :: L) (fun (k : Nat) => k ≤ i + 1) (fun (k : Nat) => i + 1 - k) 0 (by omega) ⟨rfl, trivial⟩ rfl (by rw [behP_zero hu8]) ?_
          rintro k hI _ hAg2
          refine CJ.seq fun _ hK20 _ => ?_
          refine CJ.region ?_
          refine J.p (PR.lss rfl rfl) rfl ?_
          refine J.nil ?_
          refine EJ.thenN (hK20 ?_)
          refine CJ.seq fun _ hK21 _ => ?_
          refine CJ.condD rfl (fun h39 => ?_) (fun h39 => ?_)
          ·
            refine CJ.skip ?_
            refine EJ.thenN (hK21 ?_)
            refine CJ.seq fun _ hK22 _ => ?_
            refine CJ.block ?_
            refine CJ.seq fun _ hK23 _ => ?_
            refine CJ.region ?_
            refine J.p (PR.move rfl) rfl ?_
            refine J.p (PR.assign rfl) rfl ?_
            refine J.nil ?_
            refine EJ.thenN (hK23 ?_)
            refine CJ.region ?_
            refine J.p (PR.move rfl) rfl ?_
            refine J.p (PR.idxA1 u94 sz3 rfl rfl rfl (by omega)) rfl ?_
            refine J.storeI rfl rfl sz3 (by simp; omega) At.z ?_
            refine J.nil ?_
            refine EJ.inN ?_
            refine EJ.thenN (hK22 ?_)
            refine CJ.region ?_
            refine J.p (PR.add rfl rfl (by first | exact nw _ (by omega) | rfl)) rfl ?_
            refine J.p (PR.move rfl) rfl ?_
            refine J.nil ?_
            refine EJ.thenN ?_
            exact hAg2 (k + 1) (by omega) (by omega) 8 rfl rfl ⟨rfl, trivial⟩ rfl (by simp only [behP_set (show k < 8 by omega)])
          ·
            obtain rfl : k = i + 1 := by omega
            refine CJ.exit ?_
            refine EJ.thenE ?_
            refine EJ.thenE ?_
            refine EJ.inE ?_
            refine EJ.thenN (hK18 ?_)
            refine CJ.seq fun _ hK24 _ => ?_
            refine CJ.region ?_
            refine J.p (PR.loadAll rfl (.s .z) (by simpa [*] using ag94)) rfl ?_
            refine J.alloc ze94 rfl fun g15 => ?_
            refine J.storeAll rfl rfl (by first | exact bytesC_one _ | exact intsC_one _ | exact Term.c_one _ | simp [Value.oneCell']) (by simpa [*] using sz94) (by simp [*]) At.z ?_
            refine J.nil ?_
            refine EJ.thenN (hK24 ?_)
            refine CJ.seq fun _ hK25 _ => ?_
            refine CJ.region ?_
            refine J.p (PR.move rfl) rfl ?_
            refine J.p (PR.move rfl) rfl ?_
            refine J.p (PR.sub rfl rfl (by first | exact nw _ (by omega) | rfl)) rfl ?_
            refine J.p (PR.idxA1 u94 sz3 rfl rfl rfl (by omega)) rfl ?_
            refine J.storeI rfl rfl sz3 (by simp; omega) At.z ?_
            refine J.nil ?_
            refine EJ.thenN (hK25 ?_)
            refine CJ.seq fun _ hK26 _ => ?_
            refine CJ.openR (Rs := [_, _, _, _, _, _, _]) 22 [[], [], [0, 1], [0, 1, 2], [], [4], [4, 5], [4, 5, 6], [], [8], [8, 9], [0, 1, 2, 3, 4, 5, 6, 7, 8, 9, 10], [], [12], [12, 13], [12, 13, 14], [], [], [16, 17], [16, 17, 18], [0, 1, 2, 3, 4, 5, 6, 7, 8, 9, 10, 11, 12, 13, 14, 15, 16, 17, 18, 19], [0, 1, 2, 3, 4, 5, 6, 7, 8, 9, 10, 11, 12, 13, 14, 15, 16, 17, 18, 19, 20]] [[], [22], [], [], [], [], [], [], [], [], [27], [2], [], [], [], [], [], [23], [], [], [11, 18], []] [[], [], [0], [], [], [], [], [], [], [], [], [], [], [], [], [], [], [], [16], [], [], []] rfl rfl (by kernel_rfl) ?_
            apply GJ.st1 1 rfl
            · intro gh; conv => lhs; simp only [slotsZ, zlAt, vs0, resL, at2, eq_self, Nat.reduceEqDiff, reduceIte, Nat.reduceSub, Nat.reduceAdd, List.cons_append, List.nil_append]
              all_goals rfl
            · intro gh X; conv => lhs; simp only [slotsZ, zlAt, vs0, resL, at2, eq_self, Nat.reduceEqDiff, reduceIte, Nat.reduceSub, Nat.reduceAdd, List.cons_append, List.nil_append]
              all_goals rfl
            · intro gh X; conv => lhs; simp only [slotsZ, zlAt, vs0, resL, at2, eq_self, Nat.reduceEqDiff, reduceIte, Nat.reduceSub, Nat.reduceAdd, List.cons_append, List.nil_append]
              all_goals rfl
            ·
              intro gh X K zq zc zq2 zc2 zb zv hK
              refine J.makeMap pwE (Value.int .i64) pwOk rfl fun bm49 => ?_
              refine J.nilK ?_
              exact hK zq zc zq2 zc2 bm49 zv
            ·
              intro gh gh' h
              refine ⟨?_, ?_⟩ <;> rfl
            apply GJ.st0 2 rfl
            · intro gh; conv => lhs; simp only [slotsZ, zlAt, vs0, resL, at2, eq_self, Nat.reduceEqDiff, reduceIte, Nat.reduceSub, Nat.reduceAdd, List.cons_append, List.nil_append]
              all_goals rfl
            · intro gh X; conv => lhs; simp only [slotsZ, zlAt, vs0, resL, at2, eq_self, Nat.reduceEqDiff, reduceIte, Nat.reduceSub, Nat.reduceAdd, List.cons_append, List.nil_append]
              all_goals rfl
            · intro gh X; conv => lhs; simp only [slotsZ, zlAt, vs0, resL, at2, eq_self, Nat.reduceEqDiff, reduceIte, Nat.reduceSub, Nat.reduceAdd, List.cons_append, List.nil_append]
              all_goals rfl
            ·
              intro gh X K zq zc zq2 zc2 zb zv hK
              refine J.p (PR.loadAll rfl At.z (by simpa using ag94)) rfl ?_
              refine J.nilK ?_
              exact hK zq zc zq2 zc2 zb zv
            ·
              intro gh gh' h
              rfl
            apply GJ.sn1 3 rfl
            · intro gh; conv => lhs; simp only [slotsZ, zlAt, vs0, resL, at2, eq_self, Nat.reduceEqDiff, reduceIte, Nat.reduceSub, Nat.reduceAdd, List.cons_append, List.nil_append]
              all_goals rfl
            · intro gh X; conv => lhs; simp only [slotsZ, zlAt, vs0, resL, at2, eq_self, Nat.reduceEqDiff, reduceIte, Nat.reduceSub, Nat.reduceAdd, List.cons_append, List.nil_append]
              all_goals rfl
            · intro gh X; conv => lhs; simp only [slotsZ, zlAt, vs0, resL, at2, eq_self, Nat.reduceEqDiff, reduceIte, Nat.reduceSub, Nat.reduceAdd, List.cons_append, List.nil_append]
              all_goals rfl
            ·
              intro gh X K hK
              refine J.putOne pwK u107 rfl rfl rfl (pwOk_of hlp (by omega)) At.z ?_
              refine J.nilK ?_
              exact hK
            ·
              intro gh gh' h
              first | simp only [h 0 rfl] | rfl
            apply GJ.st0 4 rfl
            · intro gh; conv => lhs; simp only [slotsZ, zlAt, vs0, resL, at2, eq_self, Nat.reduceEqDiff, reduceIte, Nat.reduceSub, Nat.reduceAdd, List.cons_append, List.nil_append]
              all_goals rfl
            · intro gh X; conv => lhs; simp only [slotsZ, zlAt, vs0, resL, at2, eq_self, Nat.reduceEqDiff, reduceIte, Nat.reduceSub, Nat.reduceAdd, List.cons_append, List.nil_append]
              all_goals rfl
            · intro gh X; conv => lhs; simp only [slotsZ, zlAt, vs0, resL, at2, eq_self, Nat.reduceEqDiff, reduceIte, Nat.reduceSub, Nat.reduceAdd, List.cons_append, List.nil_append]
              all_goals rfl
            ·
              intro gh X K zq zc zq2 zc2 zb zv hK
              refine J.p (PR.move rfl) rfl ?_
              refine J.nilK ?_
              exact hK zq zc zq2 zc2 zb zv
            ·
              intro gh gh' h
              first | simp only [h 0 rfl] | rfl
            apply GJ.st0 5 rfl
            · intro gh; conv => lhs; simp only [slotsZ, zlAt, vs0, resL, at2, eq_self, Nat.reduceEqDiff, reduceIte, Nat.reduceSub, Nat.reduceAdd, List.cons_append, List.nil_append]
              all_goals rfl
            · intro gh X; conv => lhs; simp only [slotsZ, zlAt, vs0, resL, at2, eq_self, Nat.reduceEqDiff, reduceIte, Nat.reduceSub, Nat.reduceAdd, List.cons_append, List.nil_append]
              all_goals rfl
            · intro gh X; conv => lhs; simp only [slotsZ, zlAt, vs0, resL, at2, eq_self, Nat.reduceEqDiff, reduceIte, Nat.reduceSub, Nat.reduceAdd, List.cons_append, List.nil_append]
              all_goals rfl
            ·
              intro gh X K zq zc zq2 zc2 zb zv hK
              refine J.p (PR.move rfl) rfl ?_
              refine J.nilK ?_
              exact hK zq zc zq2 zc2 zb zv
            ·
              intro gh gh' h
              rfl
            apply GJ.st0 6 rfl
            · intro gh; conv => lhs; simp only [slotsZ, zlAt, vs0, resL, at2, eq_self, Nat.reduceEqDiff, reduceIte, Nat.reduceSub, Nat.reduceAdd, List.cons_append, List.nil_append]
              all_goals rfl
            · intro gh X; conv => lhs; simp only [slotsZ, zlAt, vs0, resL, at2, eq_self, Nat.reduceEqDiff, reduceIte, Nat.reduceSub, Nat.reduceAdd, List.cons_append, List.nil_append]
              all_goals rfl
            · intro gh X; conv => lhs; simp only [slotsZ, zlAt, vs0, resL, at2, eq_self, Nat.reduceEqDiff, reduceIte, Nat.reduceSub, Nat.reduceAdd, List.cons_append, List.nil_append]
              all_goals rfl
            ·
              intro gh X K zq zc zq2 zc2 zb zv hK
              refine J.p (PR.nilCheck rfl) rfl ?_
              refine J.nilK ?_
              exact hK zq zc zq2 zc2 zb zv
            ·
              intro gh gh' h
              rfl
            apply GJ.st0 7 rfl
            · intro gh; conv => lhs; simp only [slotsZ, zlAt, vs0, resL, at2, eq_self, Nat.reduceEqDiff, reduceIte, Nat.reduceSub, Nat.reduceAdd, List.cons_append, List.nil_append]
              all_goals rfl
            · intro gh X; conv => lhs; simp only [slotsZ, zlAt, vs0, resL, at2, eq_self, Nat.reduceEqDiff, reduceIte, Nat.reduceSub, Nat.reduceAdd, List.cons_append, List.nil_append]
              all_goals rfl
            · intro gh X; conv => lhs; simp only [slotsZ, zlAt, vs0, resL, at2, eq_self, Nat.reduceEqDiff, reduceIte, Nat.reduceSub, Nat.reduceAdd, List.cons_append, List.nil_append]
              all_goals rfl
            ·
              intro gh X K zq zc zq2 zc2 zb zv hK
              refine J.p (PR.fldA u41 rfl sz22 rfl) rfl ?_
              refine J.nilK ?_
              exact hK zq zc zq2 zc2 zb zv
            ·
              intro gh gh' h
              rfl
            apply GJ.st0 8 rfl
            · intro gh; conv => lhs; simp only [slotsZ, zlAt, vs0, resL, at2, eq_self, Nat.reduceEqDiff, reduceIte, Nat.reduceSub, Nat.reduceAdd, List.cons_append, List.nil_append]
              all_goals rfl
            · intro gh X; conv => lhs; simp only [slotsZ, zlAt, vs0, resL, at2, eq_self, Nat.reduceEqDiff, reduceIte, Nat.reduceSub, Nat.reduceAdd, List.cons_append, List.nil_append]
              all_goals rfl
            · intro gh X; conv => lhs; simp only [slotsZ, zlAt, vs0, resL, at2, eq_self, Nat.reduceEqDiff, reduceIte, Nat.reduceSub, Nat.reduceAdd, List.cons_append, List.nil_append]
              all_goals rfl
            ·
              intro gh X K zq zc zq2 zc2 zb zv hK
              refine J.p (PR.loadH (q := some ⟨ba, 0, none⟩) (k := 0) rfl pad pl22) rfl ?_
              refine J.nilK ?_
              exact hK zq zc zq2 zc2 zb zv
            ·
              intro gh gh' h
              rfl
            apply GJ.st0 9 rfl
            · intro gh; conv => lhs; simp only [slotsZ, zlAt, vs0, resL, at2, eq_self, Nat.reduceEqDiff, reduceIte, Nat.reduceSub, Nat.reduceAdd, List.cons_append, List.nil_append]
              all_goals rfl
            · intro gh X; conv => lhs; simp only [slotsZ, zlAt, vs0, resL, at2, eq_self, Nat.reduceEqDiff, reduceIte, Nat.reduceSub, Nat.reduceAdd, List.cons_append, List.nil_append]
              all_goals rfl
            · intro gh X; conv => lhs; simp only [slotsZ, zlAt, vs0, resL, at2, eq_self, Nat.reduceEqDiff, reduceIte, Nat.reduceSub, Nat.reduceAdd, List.cons_append, List.nil_append]
              all_goals rfl
            ·
              intro gh X K zq zc zq2 zc2 zb zv hK
              refine J.p (PR.move rfl) rfl ?_
              refine J.nilK ?_
              exact hK zq zc zq2 zc2 zb zv
            ·
              intro gh gh' h
              rfl
            apply GJ.st0 10 rfl
            · intro gh; conv => lhs; simp only [slotsZ, zlAt, vs0, resL, at2, eq_self, Nat.reduceEqDiff, reduceIte, Nat.reduceSub, Nat.reduceAdd, List.cons_append, List.nil_append]
              all_goals rfl
            · intro gh X; conv => lhs; simp only [slotsZ, zlAt, vs0, resL, at2, eq_self, Nat.reduceEqDiff, reduceIte, Nat.reduceSub, Nat.reduceAdd, List.cons_append, List.nil_append]
              all_goals rfl
            · intro gh X; conv => lhs; simp only [slotsZ, zlAt, vs0, resL, at2, eq_self, Nat.reduceEqDiff, reduceIte, Nat.reduceSub, Nat.reduceAdd, List.cons_append, List.nil_append]
              all_goals rfl
            ·
              intro gh X K zq zc zq2 zc2 zb zv hK
              refine J.p (PR.idxA1 u152 sz107 rfl rfl rfl (by omega)) rfl ?_
              refine J.nilK ?_
              exact hK zq zc zq2 zc2 zb zv
            ·
              intro gh gh' h
              rfl
            apply GJ.st0 11 rfl
            · intro gh; conv => lhs; simp only [slotsZ, zlAt, vs0, resL, at2, eq_self, Nat.reduceEqDiff, reduceIte, Nat.reduceSub, Nat.reduceAdd, List.cons_append, List.nil_append]
              all_goals rfl
            · intro gh X; conv => lhs; simp only [slotsZ, zlAt, vs0, resL, at2, eq_self, Nat.reduceEqDiff, reduceIte, Nat.reduceSub, Nat.reduceAdd, List.cons_append, List.nil_append]
              all_goals rfl
            · intro gh X; conv => lhs; simp only [slotsZ, zlAt, vs0, resL, at2, eq_self, Nat.reduceEqDiff, reduceIte, Nat.reduceSub, Nat.reduceAdd, List.cons_append, List.nil_append]
              all_goals rfl
            ·
              intro gh X K zq zc zq2 zc2 zb zv hK
              refine J.p (PR.load rfl At.z (imgK_get (by omega) hil) pl107) rfl ?_
              refine J.nilK ?_
              exact hK zq zc zq2 zc2 zb zv
            ·
              intro gh gh' h
              rfl
            apply GJ.st1 12 rfl
            · intro gh; conv => lhs; simp only [slotsZ, zlAt, vs0, resL, at2, eq_self, Nat.reduceEqDiff, reduceIte, Nat.reduceSub, Nat.reduceAdd, List.cons_append, List.nil_append]
              all_goals rfl
            · intro gh X; conv => lhs; simp only [slotsZ, zlAt, vs0, resL, at2, eq_self, Nat.reduceEqDiff, reduceIte, Nat.reduceSub, Nat.reduceAdd, List.cons_append, List.nil_append]
              all_goals rfl
            · intro gh X; conv => lhs; simp only [slotsZ, zlAt, vs0, resL, at2, eq_self, Nat.reduceEqDiff, reduceIte, Nat.reduceSub, Nat.reduceAdd, List.cons_append, List.nil_append]
              all_goals rfl
            ·
              intro gh X K zq zc zq2 zc2 zb zv hK
              refine J.call fn145 rfl rfl fun w hH => hH.lend .z fun Hl1 hle1 hA1 hB1 hH => (times_c (omap_H hA1) (Sok.one hlp (by omega)) (had.le hle1) ((imgs_H hA6 hil).le hle1) (hf i hil).1 hn hd (by omega) hH).mono ?_
              rintro _ w ⟨bo59, rfl, hH⟩
              replace hH := hB1 _ _ hH
              refine ⟨_, rfl, fun a hF => J.of hF hH ?_⟩
              refine EJ.front .z ?_
              refine EJ.front (.s .z) ?_
              refine J.nilK ?_
              exact hK zq zc zq2 zc2 bo59 zv
            ·
              intro gh gh' h
              refine ⟨?_, ?_⟩ <;> (first | simp only [h 0 rfl] | rfl)
            apply GJ.st0 13 rfl
            · intro gh; conv => lhs; simp only [slotsZ, zlAt, vs0, resL, at2, eq_self, Nat.reduceEqDiff, reduceIte, Nat.reduceSub, Nat.reduceAdd, List.cons_append, List.nil_append]
              all_goals rfl
            · intro gh X; conv => lhs; simp only [slotsZ, zlAt, vs0, resL, at2, eq_self, Nat.reduceEqDiff, reduceIte, Nat.reduceSub, Nat.reduceAdd, List.cons_append, List.nil_append]
              all_goals rfl
            · intro gh X; conv => lhs; simp only [slotsZ, zlAt, vs0, resL, at2, eq_self, Nat.reduceEqDiff, reduceIte, Nat.reduceSub, Nat.reduceAdd, List.cons_append, List.nil_append]
              all_goals rfl
            ·
              intro gh X K zq zc zq2 zc2 zb zv hK
              refine J.p (PR.move rfl) rfl ?_
              refine J.nilK ?_
              exact hK zq zc zq2 zc2 zb zv
            ·
              intro gh gh' h
              rfl
            apply GJ.st0 14 rfl
            · intro gh; conv => lhs; simp only [slotsZ, zlAt, vs0, resL, at2, eq_self, Nat.reduceEqDiff, reduceIte, Nat.reduceSub, Nat.reduceAdd, List.cons_append, List.nil_append]
              all_goals rfl
            · intro gh X; conv => lhs; simp only [slotsZ, zlAt, vs0, resL, at2, eq_self, Nat.reduceEqDiff, reduceIte, Nat.reduceSub, Nat.reduceAdd, List.cons_append, List.nil_append]
              all_goals rfl
            · intro gh X; conv => lhs; simp only [slotsZ, zlAt, vs0, resL, at2, eq_self, Nat.reduceEqDiff, reduceIte, Nat.reduceSub, Nat.reduceAdd, List.cons_append, List.nil_append]
              all_goals rfl
            ·
              intro gh X K zq zc zq2 zc2 zb zv hK
              refine J.p (PR.nilCheck rfl) rfl ?_
              refine J.nilK ?_
              exact hK zq zc zq2 zc2 zb zv
            ·
              intro gh gh' h
              rfl
            apply GJ.st0 15 rfl
            · intro gh; conv => lhs; simp only [slotsZ, zlAt, vs0, resL, at2, eq_self, Nat.reduceEqDiff, reduceIte, Nat.reduceSub, Nat.reduceAdd, List.cons_append, List.nil_append]
              all_goals rfl
            · intro gh X; conv => lhs; simp only [slotsZ, zlAt, vs0, resL, at2, eq_self, Nat.reduceEqDiff, reduceIte, Nat.reduceSub, Nat.reduceAdd, List.cons_append, List.nil_append]
              all_goals rfl
            · intro gh X; conv => lhs; simp only [slotsZ, zlAt, vs0, resL, at2, eq_self, Nat.reduceEqDiff, reduceIte, Nat.reduceSub, Nat.reduceAdd, List.cons_append, List.nil_append]
              all_goals rfl
            ·
              intro gh X K zq zc zq2 zc2 zb zv hK
              refine J.p (PR.fldA u41 rfl sz22 rfl) rfl ?_
              refine J.nilK ?_
              exact hK zq zc zq2 zc2 zb zv
            ·
              intro gh gh' h
              rfl
            apply GJ.st0 16 rfl
            · intro gh; conv => lhs; simp only [slotsZ, zlAt, vs0, resL, at2, eq_self, Nat.reduceEqDiff, reduceIte, Nat.reduceSub, Nat.reduceAdd, List.cons_append, List.nil_append]
              all_goals rfl
            · intro gh X; conv => lhs; simp only [slotsZ, zlAt, vs0, resL, at2, eq_self, Nat.reduceEqDiff, reduceIte, Nat.reduceSub, Nat.reduceAdd, List.cons_append, List.nil_append]
              all_goals rfl
            · intro gh X; conv => lhs; simp only [slotsZ, zlAt, vs0, resL, at2, eq_self, Nat.reduceEqDiff, reduceIte, Nat.reduceSub, Nat.reduceAdd, List.cons_append, List.nil_append]
              all_goals rfl
            ·
              intro gh X K zq zc zq2 zc2 zb zv hK
              refine J.p (PR.loadH (q := some ⟨ba, 0, none⟩) (k := 0) rfl pad pl22) rfl ?_
              refine J.nilK ?_
              exact hK zq zc zq2 zc2 zb zv
            ·
              intro gh gh' h
              rfl
            apply GJ.st1 17 rfl
            · intro gh; conv => lhs; simp only [slotsZ, zlAt, vs0, resL, at2, eq_self, Nat.reduceEqDiff, reduceIte, Nat.reduceSub, Nat.reduceAdd, List.cons_append, List.nil_append]
              all_goals rfl
            · intro gh X; conv => lhs; simp only [slotsZ, zlAt, vs0, resL, at2, eq_self, Nat.reduceEqDiff, reduceIte, Nat.reduceSub, Nat.reduceAdd, List.cons_append, List.nil_append]
              all_goals rfl
            · intro gh X; conv => lhs; simp only [slotsZ, zlAt, vs0, resL, at2, eq_self, Nat.reduceEqDiff, reduceIte, Nat.reduceSub, Nat.reduceAdd, List.cons_append, List.nil_append]
              all_goals rfl
            ·
              intro gh X K zq zc zq2 zc2 zb zv hK
              refine J.makeMap pwE (Value.int .i64) pwOk rfl fun bm64 => ?_
              refine J.nilK ?_
              exact hK zq zc zq2 zc2 bm64 zv
            ·
              intro gh gh' h
              refine ⟨?_, ?_⟩ <;> rfl
            apply GJ.st0 18 rfl
            · intro gh; conv => lhs; simp only [slotsZ, zlAt, vs0, resL, at2, eq_self, Nat.reduceEqDiff, reduceIte, Nat.reduceSub, Nat.reduceAdd, List.cons_append, List.nil_append]
              all_goals rfl
            · intro gh X; conv => lhs; simp only [slotsZ, zlAt, vs0, resL, at2, eq_self, Nat.reduceEqDiff, reduceIte, Nat.reduceSub, Nat.reduceAdd, List.cons_append, List.nil_append]
              all_goals rfl
            · intro gh X; conv => lhs; simp only [slotsZ, zlAt, vs0, resL, at2, eq_self, Nat.reduceEqDiff, reduceIte, Nat.reduceSub, Nat.reduceAdd, List.cons_append, List.nil_append]
              all_goals rfl
            ·
              intro gh X K zq zc zq2 zc2 zb zv hK
              refine J.p (PR.loadAll rfl At.z (by simpa using ag94)) rfl ?_
              refine J.nilK ?_
              exact hK zq zc zq2 zc2 zb zv
            ·
              intro gh gh' h
              rfl
            apply GJ.sn1 19 rfl
            · intro gh; conv => lhs; simp only [slotsZ, zlAt, vs0, resL, at2, eq_self, Nat.reduceEqDiff, reduceIte, Nat.reduceSub, Nat.reduceAdd, List.cons_append, List.nil_append]
              all_goals rfl
            · intro gh X; conv => lhs; simp only [slotsZ, zlAt, vs0, resL, at2, eq_self, Nat.reduceEqDiff, reduceIte, Nat.reduceSub, Nat.reduceAdd, List.cons_append, List.nil_append]
              all_goals rfl
            · intro gh X; conv => lhs; simp only [slotsZ, zlAt, vs0, resL, at2, eq_self, Nat.reduceEqDiff, reduceIte, Nat.reduceSub, Nat.reduceAdd, List.cons_append, List.nil_append]
              all_goals rfl
            ·
              intro gh X K hK
              refine J.putOne pwK u107 rfl rfl rfl (pwOk_of hbp (by omega)) At.z ?_
              refine J.nilK ?_
              exact hK
            ·
              intro gh gh' h
              first | simp only [h 16 rfl] | rfl
            apply GJ.st0 20 rfl
            · intro gh; conv => lhs; simp only [slotsZ, zlAt, vs0, resL, at2, eq_self, Nat.reduceEqDiff, reduceIte, Nat.reduceSub, Nat.reduceAdd, List.cons_append, List.nil_append]
              all_goals rfl
            · intro gh X; conv => lhs; simp only [slotsZ, zlAt, vs0, resL, at2, eq_self, Nat.reduceEqDiff, reduceIte, Nat.reduceSub, Nat.reduceAdd, List.cons_append, List.nil_append]
              all_goals rfl
            · intro gh X; conv => lhs; simp only [slotsZ, zlAt, vs0, resL, at2, eq_self, Nat.reduceEqDiff, reduceIte, Nat.reduceSub, Nat.reduceAdd, List.cons_append, List.nil_append]
              all_goals rfl
            ·
              intro gh X K zq zc zq2 zc2 zb zv hK
              refine J.p (PR.move rfl) rfl ?_
              refine J.nilK ?_
              exact hK zq zc zq2 zc2 zb zv
            ·
              intro gh gh' h
              first | simp only [h 16 rfl] | rfl
            apply GJ.st1 21 rfl
            · intro gh; conv => lhs; simp only [slotsZ, zlAt, vs0, resL, at2, eq_self, Nat.reduceEqDiff, reduceIte, Nat.reduceSub, Nat.reduceAdd, List.cons_append, List.nil_append]
              all_goals rfl
            · intro gh X; conv => lhs; simp only [slotsZ, zlAt, vs0, resL, at2, eq_self, Nat.reduceEqDiff, reduceIte, Nat.reduceSub, Nat.reduceAdd, List.cons_append, List.nil_append]
              all_goals rfl
            · intro gh X; conv => lhs; simp only [slotsZ, zlAt, vs0, resL, at2, eq_self, Nat.reduceEqDiff, reduceIte, Nat.reduceSub, Nat.reduceAdd, List.cons_append, List.nil_append]
              all_goals rfl
            ·
              intro gh X K zq zc zq2 zc2 zb zv hK
              refine J.call fn145 rfl rfl fun w hH => hH.lend .z fun Hl1 hle1 hA1 hB1 hH => hH.lend .z fun Hl2 hle2 hA2 hB2 hH => (times_c ((omap_H hA1).le hle2) ((Sok.one hlp (by omega)).times (hf i hil).1) ((had.le hle1).le hle2) (omap_H hA2) (Sok.one hbp (by omega)) hn hd (by omega) hH).mono ?_
              rintro _ w ⟨bo67, rfl, hH⟩
              replace hH := hB2 _ _ hH
              replace hH := hB1 _ _ hH
              refine ⟨_, rfl, fun a hF => J.of hF hH ?_⟩
              refine EJ.front (.s .z) ?_
              refine EJ.front (.s .z) ?_
              refine EJ.front (.s (.s .z)) ?_
              refine J.nilK ?_
              exact hK zq zc zq2 zc2 bo67 zv
            ·
              intro gh gh' h
              refine ⟨?_, ?_⟩ <;> (first | simp only [h 0 rfl, h 11 rfl, h 16 rfl] | rfl)
            apply GJ.st0 22 rfl
            · intro gh; conv => lhs; simp only [slotsZ, zlAt, vs0, resL, at2, eq_self, Nat.reduceEqDiff, reduceIte, Nat.reduceSub, Nat.reduceAdd, List.cons_append, List.nil_append]
              all_goals rfl
            · intro gh X; conv => lhs; simp only [slotsZ, zlAt, vs0, resL, at2, eq_self, Nat.reduceEqDiff, reduceIte, Nat.reduceSub, Nat.reduceAdd, List.cons_append, List.nil_append]
              all_goals rfl
            · intro gh X; conv => lhs; simp only [slotsZ, zlAt, vs0, resL, at2, eq_self, Nat.reduceEqDiff, reduceIte, Nat.reduceSub, Nat.reduceAdd, List.cons_append, List.nil_append]
              all_goals rfl
            ·
              intro gh X K zq zc zq2 zc2 zb zv hK
              refine J.p (PR.assign rfl) rfl ?_
              refine J.nilK ?_
              exact hK zq zc zq2 zc2 zb zv
            ·
              intro gh gh' h
              first | simp only [h 0 rfl, h 11 rfl, h 16 rfl, h 20 rfl] | rfl
            apply GJ.close [0, 1, 2, 3, 4, 5, 6, 7, 8, 9, 10, 11, 12, 13, 14, 15, 16, 17, 18, 19, 20, 21] [1, 2, 3, 4, 5, 6, 7, 8, 9, 10, 11, 12, 13, 14, 15, 17, 18, 19, 20, 21, 22, 23, 24, 25, 26, 27, 28] foll0 rfl rfl rfl (by rfl)
            · intro gh; conv => lhs; simp only [slotsZ, zlAt, vs0, resL, at2, eq_self, Nat.reduceEqDiff, reduceIte, Nat.reduceSub, Nat.reduceAdd, List.cons_append, List.nil_append]
              all_goals rfl
            · intro gh; conv => lhs; simp only [slotsZ, zlAt, vs0, resL, at2, eq_self, Nat.reduceEqDiff, reduceIte, Nat.reduceSub, Nat.reduceAdd, List.cons_append, List.nil_append]
              all_goals rfl
            intro gh
            generalize (gh 0).b = bm49
            generalize (gh 11).b = bo59
            generalize (gh 16).b = bm64
            generalize (gh 20).b = bo67
            clear gh
            refine EJ.thenN (hK26 ?_)
            refine CJ.region ?_
            refine J.p (PR.move rfl) rfl ?_
            refine J.p (PR.move rfl) rfl ?_
            refine J.p (PR.move rfl) rfl ?_
            refine J.p (PR.move rfl) rfl ?_
            refine J.p (PR.mul rfl rfl (by first | exact nw _ (by omega) | rfl)) rfl ?_
            refine J.p (PR.move rfl) rfl ?_
            refine J.p (PR.mul rfl rfl (by first | exact nw _ (by omega) | rfl)) rfl ?_
            refine J.call fn147 rfl rfl fun w hH => (field_c (by omega) hH).mono ?_
            rintro _ w ⟨rfl, hH⟩
            refine ⟨_, rfl, fun a hF => J.of hF hH ?_⟩
            refine J.call fn146 rfl rfl fun w hH => hH.lend (.s (.s (.s .z))) fun Hl1 hle1 hA1 hB1 hH => (addAll_c k1 (omap_H hA1) (((Sok.one hlp (by omega)).times (hf i hil).1).times (Sok.one hbp (by omega))) (by omega) (by omega) (by omega) (hH.front (.s (.s (.s (.s (.s (.s (.s (.s (.s .z))))))))))).mono ?_
            rintro _ w ⟨rfl, hH⟩
            replace hH := hB1 _ _ hH
            refine ⟨_, rfl, fun a hF => J.of hF hH ?_⟩
            refine J.nil ?_
            refine EJ.thenN ?_
            refine EJ.drop .z ?_
            refine EJ.drop (.s .z) ?_
            refine EJ.drop (.s .z) ?_
            refine EJ.drop (.s .z) ?_
            refine EJ.drop (.s .z) ?_
            refine EJ.drop (.s .z) ?_
            refine EJ.front .z ?_
            refine EJ.front (.s (.s (.s (.s .z)))) ?_
            refine EJ.front (.s (.s (.s (.s .z)))) ?_
            refine EJ.front (.s (.s (.s (.s .z)))) ?_
            refine EJ.front (.s (.s (.s (.s .z)))) ?_
            exact hMt1 () trivial 44 rfl rfl ⟨rfl, ⟨rfl, trivial⟩⟩ rfl (by rw [← acc_dP h34]; rfl)
        ·
          refine CJ.skip ?_
          refine EJ.thenN ?_
          exact hMt1 () trivial 2 rfl rfl ⟨rfl, ⟨rfl, trivial⟩⟩ rfl (by simp only [acc_dN (show ¬ 0 < nx22.1.getD i 0 from fun h => h34 h)])
      ·
        rintro _ _
        refine CJ.seq fun _ hK27 _ => ?_
        refine CJ.region ?_
        refine J.p (PR.move rfl) rfl ?_
        refine J.p (PR.move rfl) rfl ?_
        refine J.p (PR.idxA1 u94 sz3 rfl rfl rfl (by omega)) rfl ?_
        refine J.storeI rfl rfl sz3 (by simp; omega) At.z ?_
        refine J.nil ?_
        refine EJ.thenN (hK27 ?_)
        refine CJ.seq fun _ hK28 _ => ?_
        refine CJ.region ?_
        refine J.p (PR.move rfl) rfl ?_
        refine J.p (PR.move rfl) rfl ?_
        refine J.p (PR.nilCheck rfl) rfl ?_
        refine J.p (PR.fldA u41 rfl sz22 rfl) rfl ?_
        refine J.p (PR.loadH (q := some ⟨ba, 0, none⟩) (k := 0) rfl pad pl22) rfl ?_
        refine J.p (PR.lenSlice u22 rfl rfl) rfl ?_
        refine J.p (PR.lss rfl rfl) rfl ?_
        refine J.p (PR.move rfl) rfl ?_
        refine J.splitB (jd := 87) rfl (fun h87 => ?_) (fun h87 => ?_)
        ·
          try have h87p := of_decide_eq_true h87
          refine J.gy (PR.move rfl) rfl rfl rfl h87 ?_
          refine J.gy (PR.nilCheck rfl) rfl rfl rfl h87 ?_
          refine J.gy (PR.fldA u41 rfl sz22 rfl) rfl rfl rfl h87 ?_
          refine J.gy (PR.loadH (q := some ⟨ba, 0, none⟩) (k := 0) rfl pad pl22) rfl rfl rfl h87 ?_
          refine J.gy (PR.move rfl) rfl rfl rfl h87 ?_
          refine J.gy (PR.idx1 u22 sz2 rfl rfl rfl (by omega) had.sm) rfl rfl rfl h87 ?_
          refine J.gy (PR.loadH rfl (had _ (by omega)) pl2) rfl rfl rfl h87 ?_
          refine J.gy (PR.rem rfl rfl (by decide) rfl) rfl rfl rfl h87 ?_
          refine J.gy (PR.eql rfl rfl) rfl rfl rfl h87 ?_
          refine J.p (PR.pickT rfl h87 rfl) rfl ?_
          refine J.p (PR.move rfl) rfl ?_
          refine J.splitB (jd := 98) rfl (fun h98 => ?_) (fun h98 => ?_)
          ·
            try have h98p := of_decide_eq_true h98
            refine J.gy (PR.move rfl) rfl rfl rfl h98 ?_
            refine J.gy (PR.rem rfl rfl (by decide) rfl) rfl rfl rfl h98 ?_
            refine J.gy (PR.eql rfl rfl) rfl rfl rfl h98 ?_
            refine J.p (PR.pickT rfl h98 rfl) rfl ?_
            refine J.nil ?_
            refine EJ.thenN (hK28 ?_)
            refine CJ.condD rfl (fun h102 => ?_) (fun h102 => ?_)
            ·
              refine CJ.region ?_
              refine J.p (PR.move rfl) rfl ?_
              refine J.p (PR.neg rfl (by first | exact nw _ (by omega) | rfl)) rfl ?_
              refine J.p (PR.assign rfl) rfl ?_
              refine J.nil ?_
              refine EJ.inN ?_
              refine EJ.thenN (hK14 ?_)
              refine CJ.region ?_
              refine J.p (PR.add rfl rfl (by first | exact nw _ (by omega) | rfl)) rfl ?_
              refine J.p (PR.move rfl) rfl ?_
              refine J.nil ?_
              refine EJ.thenN ?_
              exact hAg1 (i + 1) (by omega) (by omega) 40 rfl rfl ⟨rfl, ⟨(vi (dsg_yes h87p h98p h102)), trivial⟩⟩ rfl (by simp only [aheadP_set (show i < 8 by omega)])
            ·
              refine CJ.skip ?_
              refine EJ.inN ?_
              refine EJ.thenN (hK14 ?_)
              refine CJ.region ?_
              refine J.p (PR.add rfl rfl (by first | exact nw _ (by omega) | rfl)) rfl ?_
              refine J.p (PR.move rfl) rfl ?_
              refine J.nil ?_
              refine EJ.thenN ?_
              exact hAg1 (i + 1) (by omega) (by omega) 37 rfl rfl ⟨rfl, ⟨(vi (dsg_no (fun h => h102 h.2.2))), trivial⟩⟩ rfl (by simp only [aheadP_set (show i < 8 by omega)])
          ·
            try have h98p := of_decide_eq_false h98
            refine J.gn rfl rfl rfl h98 ?_
            refine J.gn rfl rfl rfl h98 ?_
            refine J.gn rfl rfl rfl h98 ?_
            refine J.p (PR.pickF rfl h98 rfl) rfl ?_
            refine J.nil ?_
            refine EJ.thenN (hK28 ?_)
            refine CJ.condF rfl ?_
            refine CJ.skip ?_
            refine EJ.inN ?_
            refine EJ.thenN (hK14 ?_)
            refine CJ.region ?_
            refine J.p (PR.add rfl rfl (by first | exact nw _ (by omega) | rfl)) rfl ?_
            refine J.p (PR.move rfl) rfl ?_
            refine J.nil ?_
            refine EJ.thenN ?_
            exact hAg1 (i + 1) (by omega) (by omega) 37 rfl rfl ⟨rfl, ⟨(vi (dsg_no (fun h => h98p h.2.1))), trivial⟩⟩ rfl (by simp only [aheadP_set (show i < 8 by omega)])
        ·
          try have h87p := of_decide_eq_false h87
          refine J.gn rfl rfl rfl h87 ?_
          refine J.gn rfl rfl rfl h87 ?_
          refine J.gn rfl rfl rfl h87 ?_
          refine J.gn rfl rfl rfl h87 ?_
          refine J.gn rfl rfl rfl h87 ?_
          refine J.gn rfl rfl rfl h87 ?_
          refine J.gn rfl rfl rfl h87 ?_
          refine J.gn rfl rfl rfl h87 ?_
          refine J.gn rfl rfl rfl h87 ?_
          refine J.p (PR.pickF rfl h87 rfl) rfl ?_
          refine J.p (PR.move rfl) rfl ?_
          refine J.gn rfl rfl rfl rfl ?_
          refine J.gn rfl rfl rfl rfl ?_
          refine J.gn rfl rfl rfl rfl ?_
          refine J.p (PR.pickF rfl rfl rfl) rfl ?_
          refine J.nil ?_
          refine EJ.thenN (hK28 ?_)
          refine CJ.condF rfl ?_
          refine CJ.skip ?_
          refine EJ.inN ?_
          refine EJ.thenN (hK14 ?_)
          refine CJ.region ?_
          refine J.p (PR.add rfl rfl (by first | exact nw _ (by omega) | rfl)) rfl ?_
          refine J.p (PR.move rfl) rfl ?_
          refine J.nil ?_
          refine EJ.thenN ?_
          exact hAg1 (i + 1) (by omega) (by omega) 37 rfl rfl ⟨rfl, ⟨(vi (dsg_no (fun h => h87p h.1))), trivial⟩⟩ rfl (by simp only [aheadP_set (show i < 8 by omega)])
    ·
      refine CJ.exit ?_
      refine EJ.thenE ?_
      refine EJ.thenE ?_
      refine EJ.inE ?_
      refine EJ.inN ?_
      refine EJ.thenN ?_
      refine EJ.drop .z ?_
      refine EJ.drop .z ?_
      exact hAg0 (some nx22, la22 ++ lb22, dn ++ dLk ad af nx22 8) ⟨by rw [List.append_assoc]; exact perm_to hI.1 dAll_mid, fun x hx => hI.2 x (by simp at hx ⊢; rcases hx with h | h <;> simp [h])⟩ (by simp) 15 rfl rfl trivial rfl (by have h8 : i = 8 := (by omega); subst h8; rfl)
end Go.Proofs.Ytpojpokldncglaa.G
