/- The images of all generators as sums. No condition. -/
import Derived.Test.YtpojpokldncglaaGMap
import Derived.Test.YtpojpokldncglaaProg
import Derived.Test.YtpojpokldncglaaWa
import Derived.Test.YtpojpokldncglaaWb
import Derived.Test.YtpojpokldncglaaWc
import Derived.Test.YtpojpokldncglaaWd
import Derived.Test.YtpojpokldncglaaWe
import Derived.Test.YtpojpokldncglaaWf
import Derived.Test.YtpojpokldncglaaWg
import Derived.Test.YtpojpokldncglaaWh
import Derived.Test.YtpojpokldncglaaWi
import Derived.Test.YtpojpokldncglaaWj
import Derived.Test.YtpojpokldncglaaWk
import Derived.Test.YtpojpokldncglaaWl
import Derived.Test.YtpojpokldncglaaWm
import Derived.Test.YtpojpokldncglaaWn
import Derived.Test.YtpojpokldncglaaWo
import Derived.Test.YtpojpokldncglaaWp
import Derived.Test.YtpojpokldncglaaXa
import Derived.Test.YtpojpokldncglaaXb
import Derived.DeepKeys4
import Derived.Test.YtpojpokldncglaaXc
import Derived.Test.YtpojpokldncglaaXd
import Derived.Test.YtpojpokldncglaaXe
import Derived.Test.YtpojpokldncglaaXf
import Derived.Test.YtpojpokldncglaaXg
set_option linter.unusedVariables false
set_option linter.unusedSimpArgs false
namespace Go.Proofs.Ytpojpokldncglaa.G
open Go Go.RowKit
namespace Xh
theorem u152 : Try.prog.underlying 152 = some (TypeDesc.array 8 107) := by kernel_rfl
theorem u29 : Try.prog.underlying 29 = some (TypeDesc.struct #[{ name := "Terms", type := 27, offset := 0, embedded := false, tag := "", pkgPath := "", byteOffset := 0 }]) := by kernel_rfl
theorem u39 : Try.prog.underlying 39 = some (TypeDesc.slice 29) := by kernel_rfl
theorem u41 : Try.prog.underlying 41 = some (TypeDesc.struct #[{ name := "Degrees", type := 22, offset := 0, embedded := false, tag := "", pkgPath := "", byteOffset := 0 }, { name := "Images", type := 39, offset := 1, embedded := false, tag := "", pkgPath := "", byteOffset := 24 }]) := by kernel_rfl
theorem sz107 : Size Try.prog 107 1 := by unfold Size; kernel_rfl
theorem sz152 : Size Try.prog 152 8 := by unfold Size; kernel_rfl
theorem sz29 : Size Try.prog 29 1 := by unfold Size; kernel_rfl
theorem sz39 : Size Try.prog 39 1 := by unfold Size; kernel_rfl
theorem ze152 : Zero Try.prog 152 [.map none, .map none, .map none, .map none, .map none, .map none, .map none, .map none] := by unfold Zero; kernel_rfl
theorem bz152 : ∀ w, (Instr.build 152 #[]).run Try.prog w = .ok (.agg [.map none, .map none, .map none, .map none, .map none, .map none, .map none, .map none].toArray) w := fun _ => by kernel_rfl
theorem ze29 : Zero Try.prog 29 [.slice none 0 0] := by unfold Zero; kernel_rfl
theorem pl39 : Plain Try.prog 39 := ⟨_, u39, rfl⟩
theorem ag152 : Agg Try.prog 152 8 := ⟨_, u152, rfl, by kernel_rfl⟩
theorem ag29 : Agg Try.prog 29 1 := ⟨_, u29, rfl, by kernel_rfl⟩
theorem fn96 : Fn Try.prog 96 := ⟨_, Try.func96, by kernel_rfl, rfl⟩
end Xh
open Xh

def CellAt (H : HP) (b k : Nat) (v : Value) : Prop := cellO H (some ⟨b, 0, none⟩) k = some v
theorem CellAt.le {H H' : HP} {b k : Nat} {v : Value} (h : CellAt H b k v) (hle : Le H H') : CellAt H' b k v := cellO_le hle h
/-- sums in blocks -/
def imgs (bs : Nat → Nat) (ss : Nat → Sm) (n : Nat) : SA where
  fp := fun b => ∃ i, i < n ∧ b = bs i
  holds := fun h => ∀ i, i < n → ∃ es clock, h (bs i) = some (.map es clock) ∧ EntOk pwE (Value.int .i64) pwOk es clock (ss i)
  loc := fun h h' hb hh i hi => by
    obtain ⟨es, clock, h1, h2⟩ := hh i hi
    exact ⟨es, clock, by rw [← hb (bs i) ⟨i, hi, rfl⟩]; exact h1, h2⟩
def updN (bs : Nat → Nat) (n b : Nat) : Nat → Nat := fun i => if i = n then b else bs i
theorem imgs_H {bs : Nat → Nat} {ss : Nat → Sm} {n : Nat} {h : HP} (hh : (imgs bs ss n).holds h) {i : Nat} (hi : i < n) : SumH h (.map (some (bs i))) (ss i) := by
  obtain ⟨es, clock, h1, h2⟩ := hh i hi
  exact ⟨bs i, es, clock, rfl, h1, h2⟩
section
variable {P : Program} {ops : Array Oper} {Q : Exit → Act → World → Prop} {n : Nat} {B : World} {H0 H : HP} {rest : List Oper} {us : List (Nat × Value)} {L L' : List SA} {R : Act → World → Prop}
theorem EJ.im0 (bs : Nat → Nat) (ss : Nat → Sm) (k : EJ R n B H0 us H (imgs bs ss 0 :: L)) : EJ R n B H0 us H L := fun a w hF hH => k a w hF (hH.emp.reAt .z (fun i hi => by omega) fun b hb => by obtain ⟨i, hi, _⟩ := hb; omega)
theorem J.im0 (bs : Nat → Nat) (ss : Nat → Sm) (k : J P ops Q n B H0 rest us H (imgs bs ss 0 :: L)) : J P ops Q n B H0 rest us H L := fun a w hF hH => k a w hF (hH.emp.reAt .z (fun i hi => by omega) fun b hb => by obtain ⟨i, hi, _⟩ := hb; omega)
theorem EJ.imSnoc {b m : Nat} {s : Sm} {bs : Nat → Nat} {ss : Nat → Sm} (hs : ss m = s) (k : EJ R n B H0 us H (imgs (updN bs m b) ss (m + 1) :: L)) : EJ R n B H0 us H (osum b s :: imgs bs ss m :: L) := fun a w hF hH => by
  have h1 := hH.star
  obtain ⟨⟨hA, hC, _⟩, _⟩ := h1.objs (star (osum b s) (imgs bs ss m)) (by simp)
  refine k a w hF (h1.reAt .z (fun i hi => ?_) fun x hx => ?_)
  · by_cases e : i = m
    · obtain ⟨es, clock, h2, h3⟩ := hA
      exact ⟨es, clock, by simpa [updN, e] using h2, by rw [e, hs]; exact h3⟩
    · obtain ⟨es, clock, h2, h3⟩ := hC i (by omega)
      exact ⟨es, clock, by simpa [updN, e] using h2, h3⟩
  · obtain ⟨i, hi, rfl⟩ := hx
    by_cases e : i = m
    · left
      show updN bs m b i = b
      simp [updN, e]
    · right
      exact ⟨i, by omega, by simp [updN, e]⟩
/-- what is owned gets fixed, and stays so -/
theorem J.fixA {A : SA} (hr : Rm L A L') (k : ∀ H', Le H H' → A.holds H' → J P ops Q n B H0 rest us H' L') : J P ops Q n B H0 rest us H L := fun a w hF hH => hH.lend hr fun H' h1 h2 _ h4 => k H' h1 h2 a w hF h4
theorem EJ.fixA {A : SA} (hr : Rm L A L') (k : ∀ H', Le H H' → A.holds H' → EJ R n B H0 us H' L') : EJ R n B H0 us H L := fun a w hF hH => hH.lend hr fun H' h1 h2 _ h4 => k H' h1 h2 a w hF h4
end
def imgK (bs : Nat → Nat) (k : Nat) : List Value := (List.range 8).map fun i => if i < k then .map (some (bs i)) else .map none
@[simp] theorem imgK_len (bs : Nat → Nat) (k : Nat) : (imgK bs k).length = 8 := by simp [imgK]
theorem imgK_one (bs : Nat → Nat) (k : Nat) : ∀ u ∈ imgK bs k, u.oneCell' = true := by
  intro u hu
  obtain ⟨i, _, rfl⟩ := List.mem_map.1 hu
  split <;> rfl
theorem imgK_get {bs : Nat → Nat} {k i : Nat} (h : i < 8) (hk : i < k) : (imgK bs k)[i]? = some (.map (some (bs i))) := by
  simp [imgK, h, hk]
theorem imgK_zero (bs : Nat → Nat) : imgK bs 0 = [.map none, .map none, .map none, .map none, .map none, .map none, .map none, .map none] := by
  simp [imgK]
  rfl
theorem imgK_set {bs : Nat → Nat} {k b : Nat} (hk : k < 8) : (imgK bs k).set k (.map (some b)) = imgK (updN bs k b) (k + 1) := by
  apply List.ext_getElem?
  intro i
  rcases Nat.lt_or_ge i 8 with hi | hi
  · by_cases e : k = i
    · subst e
      rw [List.getElem?_set_self (by simp [hk])]
      simp [imgK, hi, updN]
    · rw [List.getElem?_set_ne e]
      have : (i < k + 1) ↔ i < k := by omega
      simp [imgK, hi, updN, this, Ne.symm e]
  · rw [List.getElem?_eq_none (by simp; omega), List.getElem?_eq_none (by simp; omega)]
/-- all forms in order -/
def Fok (M : Int) (fs : List (List Term)) : Prop := ∀ i, i < fs.length → Sok M (toS (fm fs i)) ∧ (fm fs i).length ≤ 9223372036854775807

set_option maxRecDepth 10000 in
theorem images_c {B : World} {H0 H : HP} {L : List SA} {w : World} {ba : Nat} {qad qaf : Option Addr} {cad caf : Nat} {ad : List Int} {af : List (List Term)} {Mi : Int} (pad : CellAt H ba 0 (.slice qad ad.length cad)) (paf : CellAt H ba 1 (.slice qaf af.length caf)) (had : Ints H qad ad) (haf : Forms H qaf af) (hf : Fok Mi af) (hn : af.length ≤ 8) (hH : Hp B H0 H L w) :
    Calls Try.prog 144 [.pointer (some ⟨ba, 0, none⟩)].toArray w fun e w' => ∃ bs : Nat → Nat, e = .returned (.agg (imgK bs af.length).toArray) ∧ Hp B H0 H (imgs bs (fun i => toS (fm af i)) af.length :: L) w' := by
  refine CJ.enter Try.func144 rfl 23 rfl rfl [(0, .pointer (some ⟨ba, 0, none⟩))] rfl hH ?_
  clear hH
  refine CJ.seq fun _ hK1 _ => ?_
  refine CJ.region ?_
  refine J.alloc ze152 rfl fun g2 => ?_
  refine J.nil ?_
  refine EJ.thenN (hK1 ?_)
  refine CJ.seq fun _ hK2 _ => ?_
  refine CJ.region ?_
  refine J.p (PR.buildZ bz152) rfl ?_
  refine J.alloc ze152 rfl fun g3 => ?_
  refine J.storeAll rfl rfl (by simp [Value.oneCell']) sz152 (by simp) .z ?_
  refine J.im0 (fun _ => 0) (fun i => toS (fm af i)) ?_
  refine J.nil ?_
  refine EJ.thenN (hK2 ?_)
  refine CJ.seq fun _ hK3 _ => ?_
  refine CJ.seq fun _ hK4 _ => ?_
  refine CJ.region ?_
  refine J.p (PR.move rfl) rfl ?_
  refine J.p (PR.nilCheck rfl) rfl ?_
  refine J.p (PR.fldA u41 rfl sz39 rfl) rfl ?_
  refine J.p (PR.loadH (q := some ⟨ba, 0, none⟩) (k := 1) rfl paf pl39) rfl ?_
  refine J.p (PR.lenSlice u39 rfl rfl) rfl ?_
  refine J.p (PR.move rfl) rfl ?_
  refine J.nil ?_
  refine EJ.thenN (hK4 ?_)
  refine CJ.block ?_
  refine CJ.loopU (σ := Nat × (Nat → Nat)) (fun ⟨k, bs⟩ => [(12, .int .i64 (k : Int))]) (fun ⟨k, bs⟩ => H) (fun ⟨k, bs⟩ => imgs bs (fun i => toS (fm af i)) k :: obj g3 (.cells (imgK bs k).toArray 152 (0, 0)) :: obj g2 (.cells (imgK (fun _ => 0) 0).toArray 152 (0, 0)) :: L) (fun ⟨k, bs⟩ => k ≤ af.length) (fun ⟨k, bs⟩ => af.length - k) (0, fun _ => 0) (by omega) ⟨rfl, trivial⟩ rfl (by simp only [imgK_zero]) ?_
  rintro ⟨k, bs⟩ hI _ hAg0
  have hk := hI
  refine CJ.seq fun _ hK5 _ => ?_
  refine CJ.region ?_
  refine J.p (PR.lss rfl rfl) rfl ?_
  refine J.nil ?_
  refine EJ.thenN (hK5 ?_)
  refine CJ.seq fun _ hK6 _ => ?_
  refine CJ.condD rfl (fun hc13 => ?_) (fun hc13 => ?_)
  ·
    refine CJ.skip ?_
    refine EJ.thenN (hK6 ?_)
    refine CJ.seq fun _ hK7 _ => ?_
    refine CJ.block ?_
    refine CJ.seq fun _ hK8 _ => ?_
    refine CJ.region ?_
    refine J.p (PR.move rfl) rfl ?_
    refine J.p (PR.idx1 u39 sz29 rfl rfl rfl (by omega) haf.sm) rfl ?_
    obtain ⟨qe16, ce16, he16, le16, Fe16⟩ := haf k (by omega)
    refine J.p (PR.loadHagg (cs := [_]) rfl (one_cell he16) (haf.sm (i := k) (by omega)) ag29) rfl ?_
    refine J.alloc ze29 rfl fun g5 => ?_
    refine J.p (PR.assign rfl) rfl ?_
    refine J.storeAll rfl rfl (by first | exact bytesC_one _ | exact intsC_one _ | exact Term.c_one _ | simp [Value.oneCell']) (by simpa [*] using sz29) (by simp [*]) At.z ?_
    refine J.nil ?_
    refine EJ.thenN (hK8 ?_)
    refine CJ.region ?_
    refine J.p (PR.move rfl) rfl ?_
    refine J.p (PR.loadAll rfl At.z (by simpa [*] using ag29)) rfl ?_
    refine J.call fn96 rfl rfl fun w hH => (sumOf_c Fe16 (hf k (by omega)).1 (hf k (by omega)).2 hH).mono ?_
    rintro _ w ⟨bo19, rfl, hH⟩
    refine ⟨_, rfl, fun a hF => J.of hF hH ?_⟩
    refine J.p (PR.idxA1 u152 sz107 rfl rfl rfl (by omega)) rfl ?_
    refine J.store rfl rfl rfl rfl sz107 (by simp; omega) (.s (.s (.s .z))) ?_
    refine J.nil ?_
    refine EJ.inN ?_
    refine EJ.thenN (hK7 ?_)
    refine CJ.region ?_
    refine J.p (PR.add rfl rfl (by first | exact nw _ (by omega) | rfl)) rfl ?_
    refine J.p (PR.move rfl) rfl ?_
    refine J.nil ?_
    refine EJ.thenN ?_
    refine EJ.front (.s (.s (.s (.s .z)))) ?_
    refine EJ.front (.s (.s (.s (.s .z)))) ?_
    refine EJ.front (.s (.s (.s .z))) ?_
    refine EJ.front (.s (.s (.s (.s .z)))) ?_
    refine EJ.front (.s (.s (.s (.s .z)))) ?_
    refine EJ.imSnoc rfl ?_
    refine EJ.drop (.s .z) ?_
    exact hAg0 (k + 1, updN bs k bo19) (show k + 1 ≤ af.length by omega) (show af.length - (k + 1) < af.length - k by omega) 13 rfl rfl ⟨rfl, trivial⟩ rfl (by simp only [imgK_set (show k < 8 by omega)])
  ·
    refine CJ.exit ?_
    refine EJ.thenE ?_
    refine EJ.thenE ?_
    refine EJ.inE ?_
    refine EJ.thenN (hK3 ?_)
    refine CJ.seq fun _ hK9 _ => ?_
    refine CJ.region ?_
    refine J.p (PR.loadAll rfl (.s .z) (by simpa using ag152)) rfl ?_
    refine J.storeAll rfl rfl (imgK_one _ _) (by simpa using sz152) (by simp) (.s (.s .z)) ?_
    refine J.nil ?_
    refine EJ.thenN (hK9 ?_)
    refine CJ.ret ?_
    refine EJ.ret1 rfl (Res.agg rfl (.s (.s .z)) (by simpa using ag152)) fun w hH => ?_
    replace hH := hH.sublist (.cons_cons _ (.cons _ (.cons _ (List.Sublist.refl _))))
    obtain rfl : k = af.length := by omega
    exact ⟨bs, rfl, hH⟩
end Go.Proofs.Ytpojpokldncglaa.G
