/- The row: the law answers true whatever the input, and the input reads as it did. No condition. -/
import Derived.Test.YtpojpokldncglaaRows
import Derived.Test.YtpojpokldncglaaProg
import Derived.WalkKit
import Derived.KernelRfl
import Derived.JoinedOf
import Derived.Maps.AppendAt
import Derived.Still
import Derived.ProofKit
import Derived.OpenShut
import Derived.StillTail
import Derived.Deep.Upon
import Derived.WalkSpells
import Derived.Maps.Range
import Derived.DeepKeys4
import Derived.ChangeOld
import Derived.Below
import Derived.SizedLaws
import Derived.Test.YtpojpokldncglaaPSuba
set_option linter.unusedVariables false
set_option linter.unusedSimpArgs false
namespace Go.Proofs.Ytpojpokldncglaa.G
open Go Go.RowKit
namespace Oh
theorem u22 : Try.prog.underlying 22 = some (TypeDesc.slice 2) := by kernel_rfl
theorem u27 : Try.prog.underlying 27 = some (TypeDesc.slice 88) := by kernel_rfl
theorem u29 : Try.prog.underlying 29 = some (TypeDesc.struct #[{ name := "Terms", type := 27, offset := 0, embedded := false, tag := "", pkgPath := "", byteOffset := 0 }]) := by kernel_rfl
theorem u39 : Try.prog.underlying 39 = some (TypeDesc.slice 29) := by kernel_rfl
theorem u41 : Try.prog.underlying 41 = some (TypeDesc.struct #[{ name := "Degrees", type := 22, offset := 0, embedded := false, tag := "", pkgPath := "", byteOffset := 0 }, { name := "Images", type := 39, offset := 1, embedded := false, tag := "", pkgPath := "", byteOffset := 24 }]) := by kernel_rfl
theorem u5 : Try.prog.underlying 5 = some (TypeDesc.int .u8) := by kernel_rfl
theorem u86 : Try.prog.underlying 86 = some (TypeDesc.array 8 5) := by kernel_rfl
theorem u88 : Try.prog.underlying 88 = some (TypeDesc.struct #[{ name := "Monomial", type := 86, offset := 0, embedded := false, tag := "", pkgPath := "", byteOffset := 0 }, { name := "Factor", type := 2, offset := 8, embedded := false, tag := "", pkgPath := "", byteOffset := 8 }]) := by kernel_rfl
theorem sz2 : Size Try.prog 2 1 := by unfold Size; kernel_rfl
theorem sz22 : Size Try.prog 22 1 := by unfold Size; kernel_rfl
theorem sz27 : Size Try.prog 27 1 := by unfold Size; kernel_rfl
theorem sz29 : Size Try.prog 29 1 := by unfold Size; kernel_rfl
theorem sz39 : Size Try.prog 39 1 := by unfold Size; kernel_rfl
theorem sz41 : Size Try.prog 41 2 := by unfold Size; kernel_rfl
theorem sz5 : Size Try.prog 5 1 := by unfold Size; kernel_rfl
theorem sz86 : Size Try.prog 86 8 := by unfold Size; kernel_rfl
theorem sz88 : Size Try.prog 88 9 := by unfold Size; kernel_rfl
theorem by29 : Bytes Try.prog 29 24 := by unfold Bytes; kernel_rfl
theorem ze2 : Zero Try.prog 2 [.int .i64 0] := by unfold Zero; kernel_rfl
theorem ze29 : Zero Try.prog 29 [.slice none 0 0] := by unfold Zero; kernel_rfl
theorem ze41 : Zero Try.prog 41 [.slice none 0 0, .slice none 0 0] := by unfold Zero; kernel_rfl
theorem bz41 : ∀ w, (Instr.build 41 #[]).run Try.prog w = .ok (.agg [.slice none 0 0, .slice none 0 0].toArray) w := fun _ => by kernel_rfl
theorem pl22 : Plain Try.prog 22 := ⟨_, u22, rfl⟩
theorem pl27 : Plain Try.prog 27 := ⟨_, u27, rfl⟩
theorem pl39 : Plain Try.prog 39 := ⟨_, u39, rfl⟩
theorem pl5 : Plain Try.prog 5 := ⟨_, u5, rfl⟩
theorem ag29 : Agg Try.prog 29 1 := ⟨_, u29, rfl, by kernel_rfl⟩
theorem ag41 : Agg Try.prog 41 2 := ⟨_, u41, rfl, by kernel_rfl⟩
theorem fn114 : Fn Try.prog 114 := ⟨_, Try.func114, by kernel_rfl, rfl⟩
theorem fn115 : Fn Try.prog 115 := ⟨_, Try.func115, by kernel_rfl, rfl⟩
theorem fn116 : Fn Try.prog 116 := ⟨_, Try.func116, by kernel_rfl, rfl⟩
theorem fn117 : Fn Try.prog 117 := ⟨_, Try.func117, by kernel_rfl, rfl⟩
theorem fn118 : Fn Try.prog 118 := ⟨_, Try.func118, by kernel_rfl, rfl⟩
theorem fn74 : Fn Try.prog 74 := ⟨_, Try.func74, by kernel_rfl, rfl⟩
theorem fn75 : Fn Try.prog 75 := ⟨_, Try.func75, by kernel_rfl, rfl⟩
theorem fn83 : Fn Try.prog 83 := ⟨_, Try.func83, by kernel_rfl, rfl⟩
theorem fn86 : Fn Try.prog 86 := ⟨_, Try.func86, by kernel_rfl, rfl⟩
theorem fn89 : Fn Try.prog 89 := ⟨_, Try.func89, by kernel_rfl, rfl⟩
theorem fn91 : Fn Try.prog 91 := ⟨_, Try.func91, by kernel_rfl, rfl⟩
theorem fn99 : Fn Try.prog 99 := ⟨_, Try.func99, by kernel_rfl, rfl⟩
theorem bd41_0 : ∀ (q0 : Option Addr) (m0 c0 : Nat) w, (Instr.build 41 #[(0, .slice q0 m0 c0)]).run Try.prog w = .ok (.agg [.slice q0 m0 c0, .slice none 0 0].toArray) w := fun q0 m0 c0 _ => by kernel_rfl
theorem foll0 : Try.prog.follows .mixedOrders = true := by kernel_rfl
end Oh
open Oh
theorem ints_take {H : HP} {q : Option Addr} {xs : List Int} (h : Ints H q xs) (k : Nat) : Ints H q (xs.take k) := fun i hi => by
  have h1 : i < xs.length := by simp at hi; omega
  have h2 := h i h1
  have e : (xs.take k).getD i 0 = xs.getD i 0 := by
    have : i < k := by simp at hi; omega
    rw [List.getD_eq_getElem?_getD, List.getD_eq_getElem?_getD, List.getElem?_take, if_pos this]
  rw [e]
  exact h2
def hasG (ts : List Term) (j : Nat) : Bool := ts.any fun t => decide (t.mono.getD j 0 > 0)
theorem hasG_yes {ts : List Term} {i j : Nat} (hi : i < ts.length) (h : (tm ts i).mono.getD j 0 > 0) : hasG ts j = true := List.any_eq_true.2 ⟨tm ts i, tm_mem hi, decide_eq_true h⟩
theorem hasG_no {ts : List Term} {j : Nat} (h : ∀ i, i < ts.length → ¬ (tm ts i).mono.getD j 0 > 0) : hasG ts j = false := List.any_eq_false.2 fun t ht => by
  obtain ⟨i, hi, rfl⟩ := List.mem_iff_getElem.1 ht
  rw [tm_eq hi]
  have := h i hi
  simpa using this
set_option maxRecDepth 10000 in
theorem l06Has_c {B : World} {H0 H : HP} {L : List SA} {w : World} {qts : Option Addr} {cts : Nat} {ts : List Term} {j : Nat}  (hts : Terms H qts ts) (hj : j < 8) (hl : ts.length ≤ 9223372036854775807) (hH : Hp B H0 H L w) :
    Calls Try.prog 115 [.agg [.slice qts ts.length cts].toArray, .int .i64 (j : Int)].toArray w fun e w' => e = .returned (.bool (hasG ts j)) ∧ Hp B H0 H L w' := by
  refine CJ.enter Try.func115 rfl 22 rfl rfl [(0, .agg [.slice qts ts.length cts].toArray), (1, .int .i64 (j : Int))] rfl hH ?_
  clear hH
  refine CJ.seq fun _ hK1 _ => ?_
  refine CJ.region ?_
  refine J.box rfl rfl rfl fun g2 => ?_
  refine J.p (PR.assign rfl) rfl ?_
  refine J.nil ?_
  refine EJ.thenN (hK1 ?_)
  refine CJ.seq fun _ hK2 _ => ?_
  refine CJ.seq fun _ hK3 _ => ?_
  refine CJ.region ?_
  refine J.p (PR.assign rfl) rfl ?_
  refine J.nil ?_
  refine EJ.thenN (hK3 ?_)
  refine CJ.block ?_
  refine CJ.loopU (σ := Nat) (fun (k : Nat) => [(5, .int .i64 (k : Int))]) (fun (k : Nat) => H) (fun (k : Nat) => obj g2 (.cells [.slice qts ts.length cts].toArray 29 (0, 0)) :: L) (fun (k : Nat) => k ≤ ts.length ∧ ∀ i, i < k → ¬ (tm ts i).mono.getD j 0 > 0) (fun (k : Nat) => ts.length - k) 0 ⟨by omega, fun i hi => by omega⟩ ⟨rfl, trivial⟩ rfl rfl ?_
  rintro k ⟨hk, hI⟩ _ hAg0
  refine CJ.seq fun _ hK4 _ => ?_
  refine CJ.seq fun _ hK5 _ => ?_
  refine CJ.region ?_
  refine J.p (PR.move rfl) rfl ?_
  refine J.p (PR.fldA u29 rfl sz27 rfl) rfl ?_
  refine J.p (PR.load rfl At.z rfl pl27) rfl ?_
  refine J.p (PR.lenSlice u27 rfl rfl) rfl ?_
  refine J.p (PR.lss rfl rfl) rfl ?_
  refine J.nil ?_
  refine EJ.thenN (hK5 ?_)
  refine CJ.condD rfl (fun hc10 => ?_) (fun hc10 => ?_)
  ·
    refine CJ.skip ?_
    refine EJ.thenN (hK4 ?_)
    refine CJ.seq fun _ hK6 _ => ?_
    refine CJ.block ?_
    refine CJ.seq fun _ hK7 _ => ?_
    refine CJ.region ?_
    refine J.p (PR.fldA u29 rfl sz27 rfl) rfl ?_
    refine J.p (PR.load rfl At.z rfl pl27) rfl ?_
    refine J.p (PR.move rfl) rfl ?_
    refine J.p (PR.move rfl) rfl ?_
    refine J.p (PR.idx (i' := k) u27 sz88 rfl rfl rfl (by omega) hts.sm) rfl ?_
    refine J.p (PR.fldP u88 rfl sz86 rfl (hts.sm (i := k) (by omega))) rfl ?_
    refine J.p (PR.idxP1 u86 sz5 rfl (hts.sm (i := k) (by omega)) rfl rfl (by omega)) rfl ?_
    refine J.p (PR.loadH rfl (hts.byte (by omega) (by omega)) pl5) rfl ?_
    refine J.p (PR.gtr rfl rfl) rfl ?_
    refine J.nil ?_
    refine EJ.thenN (hK7 ?_)
    refine CJ.condD rfl (fun h21 => ?_) (fun h21 => ?_)
    ·
      refine CJ.seq fun _ hK8 _ => ?_
      refine CJ.region ?_
      refine J.p (PR.assign rfl) rfl ?_
      refine J.nil ?_
      refine EJ.thenN (hK8 ?_)
      refine CJ.ret ?_
      refine EJ.inR ?_
      refine EJ.thenR ?_
      refine EJ.thenR ?_
      refine EJ.inR ?_
      refine EJ.thenR ?_
      refine EJ.ret1 rfl (Res.tmp rfl) fun w hH => ?_
      replace hH := hH.tail
      exact ⟨rb (hasG_yes (i := k) (by omega) h21).symm, hH⟩
    ·
      refine CJ.skip ?_
      refine EJ.inN ?_
      refine EJ.thenN (hK6 ?_)
      refine CJ.region ?_
      refine J.p (PR.move rfl) rfl ?_
      refine J.p (PR.add rfl rfl (by first | exact nw _ (by omega) | rfl)) rfl ?_
      refine J.p (PR.assign rfl) rfl ?_
      refine J.nil ?_
      refine EJ.thenN ?_
      exact hAg0 (k + 1) ⟨by omega, upto hI h21⟩ (by omega) 18 rfl rfl ⟨rfl, trivial⟩ rfl rfl
  ·
    refine CJ.exit ?_
    refine EJ.thenE ?_
    refine EJ.thenE ?_
    refine EJ.inE ?_
    refine EJ.thenN (hK2 ?_)
    refine CJ.seq fun _ hK9 _ => ?_
    refine CJ.region ?_
    refine J.p (PR.assign rfl) rfl ?_
    refine J.nil ?_
    refine EJ.thenN (hK9 ?_)
    refine CJ.ret ?_
    refine EJ.ret1 rfl (Res.tmp rfl) fun w hH => ?_
    replace hH := hH.tail
    exact ⟨rb (hasG_no (fun i hi => hI i (by omega))).symm, hH⟩
theorem upto2 {p : Nat → Prop} {K k : Nat} (h : ∀ j, K ≤ j → j < k → p j) (hk : p k) : ∀ j, K ≤ j → j < k + 1 → p j := fun j h0 hj => by
  rcases Nat.lt_or_ge j k with h1 | h1
  · exact h j h0 h1
  · obtain rfl : j = k := by omega
    exact hk
theorem most_take {ds : List Int} {K i : Nat} (hK : K ≤ ds.length) : most (ds.take K) i = if i < K then most ds i else 0 := by
  unfold most
  rw [List.length_take_of_le hK]
  by_cases h : i < K
  · have e : (ds.take K).getD i 0 = ds.getD i 0 := by rw [List.getD_eq_getElem?_getD, List.getD_eq_getElem?_getD, List.getElem?_take, if_pos h]
    rw [if_pos h, if_pos h, e, if_pos (show i < ds.length by omega)]
  · rw [if_neg h, if_neg h]
theorem isMono_take {ds m : List Int} {K : Nat} (hK : K ≤ ds.length) (h : isMono ds m = true) (h2 : ∀ j, K ≤ j → j < 8 → m.getD j 0 ≤ 0) : isMono (ds.take K) m = true := isMono_true fun j hj => by
  rw [most_take hK]
  split
  · exact isMono_le h hj
  · exact h2 j (by omega) hj
theorem sub_yes {ds : List Int} {ts : List Term} {K : Nat} (hK : K ≤ ds.length) (hw : Wfs ts) (hf : isForm ds ts = true) (h : ∀ x, K ≤ x → x < ds.length → hasG ts x = false) : isForm (ds.take K) ts = true := by
  have h4 := isForm_len4 hf
  have hg : ∀ i, i < ts.length → goodAt (ds.take K) ts i = true := fun i hi => by
    have h1 := isForm_at hf hi
    unfold goodAt at h1 ⊢
    simp only [Bool.and_eq_true] at h1 ⊢
    refine ⟨⟨isMono_take hK h1.1.1 fun j hj h8 => ?_, h1.1.2⟩, h1.2⟩
    rcases Nat.lt_or_ge j ds.length with h2 | h2
    · have h3 := List.any_eq_false.1 (h j hj h2) _ (tm_mem hi)
      simp only [decide_eq_true_eq] at h3
      omega
    · have := form_zero hw hf hi j h2
      omega
  rw [isForm_good hg]
  exact decide_eq_true (by omega)
theorem sub_no {ds : List Int} {ts : List Term} {K j : Nat} (hK : K ≤ ds.length) (hj : K ≤ j) (h8 : j < 8) (h : hasG ts j = true) : isForm (ds.take K) ts = false := by
  obtain ⟨t, ht, h1⟩ := List.any_eq_true.1 h
  obtain ⟨i, hi, rfl⟩ := List.mem_iff_getElem.1 ht
  rw [tm_eq hi] at h1
  have h2 := of_decide_eq_true h1
  exact isForm_bad hi (good_mono (isMono_false (k := j) h8 (by rw [most_take hK, if_neg (by omega)]; omega)))
theorem bnot_t {b : Bool} (h : (!b) = true) : b = false := by cases b <;> simp_all
theorem bnot_f {b : Bool} (h : (!b) = false) : b = true := by cases b <;> simp_all
def sbIn (ds : List Int) (k : Int) : Bool := decide (0 ≤ k) && decide (k ≤ (ds.length : Int))
def sbOk (ds : List Int) (fs : List (List Term)) (K : Nat) : Bool := (List.range K).all fun i => isForm (ds.take K) (fm fs i)
def sbAll (ds : List Int) (fs : List (List Term)) (k : Int) : Bool := (isAlg ds fs && sbIn ds k) && sbOk ds fs k.toNat
def sbD (ds : List Int) (fs : List (List Term)) (k : Int) : List Int := if sbAll ds fs k then ds.take k.toNat else []
def sbF (ds : List Int) (fs : List (List Term)) (k : Int) : List (List Term) := if sbAll ds fs k then fs.take k.toNat else []
def sbC (ds : List Int) (fs : List (List Term)) (k : Int) : Int := if isAlg ds fs then (if sbIn ds k then (if sbOk ds fs k.toNat then 0 else 5) else 2) else 1
theorem sb1 {ds : List Int} {fs : List (List Term)} {k : Int} (h : isAlg ds fs = false) : sbD ds fs k = [] ∧ sbF ds fs k = [] ∧ sbC ds fs k = 1 := by unfold sbD sbF sbC sbAll; rw [h]; exact ⟨rfl, rfl, rfl⟩
theorem sb2 {ds : List Int} {fs : List (List Term)} {k : Int} (h : isAlg ds fs = true) (h2 : sbIn ds k = false) : sbD ds fs k = [] ∧ sbF ds fs k = [] ∧ sbC ds fs k = 2 := by unfold sbD sbF sbC sbAll; rw [h, h2]; exact ⟨rfl, rfl, rfl⟩
theorem sb3 {ds : List Int} {fs : List (List Term)} {K i : Nat} (h : isAlg ds fs = true) (h2 : sbIn ds K = true) (hi : i < K) (h3 : isForm (ds.take K) (fm fs i) = false) : sbD ds fs K = [] ∧ sbF ds fs K = [] ∧ sbC ds fs K = 5 := by
  have h4 : sbOk ds fs (K : Int).toNat = false := List.all_eq_false.2 ⟨i, by simpa using hi, by simpa using h3⟩
  unfold sbD sbF sbC sbAll
  rw [h, h2, h4]
  exact ⟨rfl, rfl, rfl⟩
theorem sb4 {ds : List Int} {fs : List (List Term)} {K : Nat} (h : isAlg ds fs = true) (h2 : sbIn ds K = true) (h3 : ∀ i, i < K → isForm (ds.take K) (fm fs i) = true) : sbD ds fs K = ds.take K ∧ sbF ds fs K = fs.take K ∧ sbC ds fs K = 0 := by
  have h4 : sbOk ds fs (K : Int).toNat = true := List.all_eq_true.2 fun i hi => h3 i (by simpa using hi)
  unfold sbD sbF sbC sbAll
  rw [h, h2, h4]
  exact ⟨rfl, rfl, rfl⟩
theorem sbIn_bd {ds : List Int} {k : Int} (h : sbIn ds k = true) : 0 ≤ k ∧ k ≤ ds.length := by simpa [sbIn] using h
theorem Wfss.take {fs : List (List Term)} (h : Wfss fs) (k : Nat) : Wfss (fs.take k) := fun f hf => h f (List.mem_of_mem_take hf)
theorem sbF_wf {ds : List Int} {fs : List (List Term)} {k : Int} (h : Wfss fs) : Wfss (sbF ds fs k) := by
  unfold sbF
  split
  · exact h.take _
  · exact fun f hf => by simp at hf
theorem sb_len (ds : List Int) (fs : List (List Term)) (k : Int) : (sbD ds fs k).length ≤ ds.length ∧ (sbF ds fs k).length ≤ fs.length ∧ tot (sbF ds fs k) ≤ tot fs := by
  unfold sbD sbF
  have := tot_pre (fs := fs) (i := min k.toNat fs.length) (Nat.min_le_right _ _)
  have e : fs.take (min k.toNat fs.length) = fs.take k.toNat := by rw [← List.take_take, List.take_length]
  rw [e] at this
  split
  · exact ⟨by simp; omega, by simp; omega, this⟩
  · simp [tot]
theorem l01Own_m {B : World} {H0 H : HP} {L : List SA} {w : World} {q : Option Addr} {c m : Nat} {xs : List Int} (hxs : Ints H q xs) (hm : xs.length = m) (hn : m ≤ 1048576) (hH : Hp B H0 H L w) :
    Calls Try.prog 114 [.slice q m c].toArray w fun e w' => ∃ q c, e = .returned (.slice q xs.length c) ∧ Hp B H0 H (own 2 1 q xs.length c (intsC xs) :: L) w' := by
  subst hm
  exact l01Own_c hxs hn hH
theorem CloneI_m {B : World} {H0 H : HP} {L : List SA} {w : World} {q : Option Addr} {c m : Nat} {xs : List Int} (hxs : Ints H q xs) (hm : xs.length = m) (hn : m ≤ 1048576) (hH : Hp B H0 H L w) :
    Calls Try.prog 117 [.slice q m c].toArray w fun e w' => ∃ q c, e = .returned (.slice q xs.length c) ∧ Hp B H0 H (own 2 1 q xs.length c (intsC xs) :: L) w' := by
  subst hm
  exact CloneI_c hxs hn hH
set_option maxHeartbeats 2000000 in
set_option maxRecDepth 10000 in
theorem sSubAlgebra_c {B : World} {H0 H : HP} {L : List SA} {w : World} {qad qaf : Option Addr} {cad caf : Nat} {ad : List Int} {af : List (List Term)} {k : Int}  (had : Ints H qad ad) (haf : Forms H qaf af) (hn8 : ad.length ≤ 1048576) (hn9 : af.length ≤ 1048576) (hl9 : ∀ i, i < af.length → (fm af i).length ≤ 1048576) (hca : ad.length ≤ cad) (hH : Hp B H0 H L w) :
    Calls Try.prog 58 [.agg [.slice qad ad.length cad, .slice qaf af.length caf].toArray, .int .i64 k].toArray w fun e w' => ∃ qd cd qf cf vs, e = .returned (.tuple #[.agg [.slice qd (sbD ad af k).length cd, .slice qf (sbF ad af k).length cf].toArray, .int .i64 (sbC ad af k)]) ∧ Hp B H0 H (own 2 1 qd (sbD ad af k).length cd (intsC (sbD ad af k)) :: ownFs 29 88 qf cf vs (sbF ad af k) :: L) w' := by
  refine CJ.enter Try.func58 rfl 61 rfl rfl [(0, .agg [.slice qad ad.length cad, .slice qaf af.length caf].toArray), (1, .int .i64 k)] rfl hH ?_
  clear hH
  refine CJ.seq fun _ hK1 _ => ?_
  refine CJ.region ?_
  refine J.box rfl rfl rfl fun g2 => ?_
  refine J.alloc ze41 rfl fun g4 => ?_
  refine J.p (PR.assign rfl) rfl ?_
  refine J.nil ?_
  refine EJ.thenN (hK1 ?_)
  refine CJ.seq fun _ hK2 _ => ?_
  refine CJ.block ?_
  refine CJ.seq fun _ hK3 _ => ?_
  refine CJ.region ?_
  refine J.p (PR.loadAll rfl (.s .z) (by simpa [*] using ag41)) rfl ?_
  refine J.call fn89 rfl rfl fun w hH => (l02Is_c had haf hn8 hn9 hl9 hH).mono ?_
  rintro _ w ⟨rfl, hH⟩
  refine ⟨_, rfl, fun a hF => J.of hF hH ?_⟩
  refine J.p (PR.not rfl) rfl ?_
  refine J.p (PR.assign rfl) rfl ?_
  refine J.nil ?_
  refine EJ.thenN (hK3 ?_)
  refine CJ.cond rfl (fun h9 => ?_) (fun h9 => ?_)
  ·
    refine CJ.seq fun _ hK4 _ => ?_
    refine CJ.region ?_
    refine J.p (PR.buildZ bz41) rfl ?_
    refine J.storeAll rfl rfl (by first | exact bytesC_one _ | exact intsC_one _ | exact Term.c_one _ | simp [Value.oneCell']) (by simpa [*] using sz41) (by simp [*]) At.z ?_
    refine J.p (PR.assign rfl) rfl ?_
    refine J.nil ?_
    refine EJ.thenN (hK4 ?_)
    refine CJ.ret ?_
    refine EJ.inR ?_
    refine EJ.thenR ?_
    refine EJ.ret2 rfl (Res.agg rfl At.z (by simpa [*] using ag41)) (Res.tmp rfl) fun w hH => ?_
    replace hH := hH.sublist (.cons _ (.cons _ (List.Sublist.refl _)))
    obtain ⟨e1, e2, e3⟩ := sb1 (k := k) (by simpa using h9)
    rw [e1, e2, e3]
    exact ⟨none, 0, none, 0, nilVs, rfl, ((hH.ownFsNil 29 88).own0 2 1)⟩
  ·
    have hPa : isAlg ad af = true := by simpa using h9
    refine CJ.seq fun _ hK5 _ => ?_
    refine CJ.region ?_
    refine J.p (PR.move rfl) rfl ?_
    refine J.p (PR.fldA u41 rfl sz22 rfl) rfl ?_
    refine J.p (PR.load rfl (.s .z) rfl pl22) rfl ?_
    refine J.p (PR.lenSlice u22 rfl rfl) rfl ?_
    refine J.call fn83 rfl rfl fun w hH => (l01In_c  hH).mono ?_
    rintro _ w ⟨rfl, hH⟩
    refine ⟨_, rfl, fun a hF => J.of hF hH ?_⟩
    refine J.p (PR.not rfl) rfl ?_
    refine J.p (PR.assign rfl) rfl ?_
    refine J.nil ?_
    refine EJ.thenN (hK5 ?_)
    refine CJ.cond rfl (fun h14 => ?_) (fun h14 => ?_)
    ·
      refine CJ.seq fun _ hK6 _ => ?_
      refine CJ.region ?_
      refine J.p (PR.buildZ bz41) rfl ?_
      refine J.storeAll rfl rfl (by first | exact bytesC_one _ | exact intsC_one _ | exact Term.c_one _ | simp [Value.oneCell']) (by simpa [*] using sz41) (by simp [*]) At.z ?_
      refine J.p (PR.assign rfl) rfl ?_
      refine J.nil ?_
      refine EJ.thenN (hK6 ?_)
      refine CJ.ret ?_
      refine EJ.inR ?_
      refine EJ.thenR ?_
      refine EJ.ret2 rfl (Res.agg rfl At.z (by simpa [*] using ag41)) (Res.tmp rfl) fun w hH => ?_
      replace hH := hH.sublist (.cons _ (.cons _ (List.Sublist.refl _)))
      obtain ⟨e1, e2, e3⟩ := sb2 hPa (by unfold sbIn; exact bnot_t h14)
      rw [e1, e2, e3]
      exact ⟨none, 0, none, 0, nilVs, rfl, ((hH.ownFsNil 29 88).own0 2 1)⟩
    ·
      have hin : sbIn ad k = true := by unfold sbIn; exact bnot_f h14
      obtain ⟨hk0, hk1⟩ := sbIn_bd hin
      obtain ⟨K, rfl⟩ : ∃ K : Nat, k = (K : Int) := ⟨k.toNat, by omega⟩
      have hA := isAlg_ok hPa haf.wfss
      have hPl := isAlg_len hPa
      have hdl : (ad.take K).length = K := List.length_take_of_le (by omega)
      have hfl : (af.take K).length = K := List.length_take_of_le (by omega)
      refine CJ.skip ?_
      refine EJ.inN ?_
      refine EJ.thenN (hK2 ?_)
      refine CJ.seq fun _ hK7 _ => ?_
      refine CJ.region ?_
      refine J.p (PR.fldA u41 rfl sz22 rfl) rfl ?_
      refine J.p (PR.load rfl (.s .z) rfl pl22) rfl ?_
      refine J.p (PR.move rfl) rfl ?_
      refine J.p (PR.sliceHi (i' := K) u22 sz2 rfl rfl rfl (by omega)) rfl ?_
      refine J.call fn114 rfl rfl fun w hH => (l01Own_m (ints_take had K) hdl (by omega) hH).mono ?_
      rintro _ w ⟨qo26, co26, rfl, hH⟩
      refine ⟨_, rfl, fun a hF => J.of hF hH ?_⟩
      refine J.own0 29 1 ?_
      refine J.ts0 88 ?_
      refine J.p (PR.build1 rfl (fun w => bd41_0 _ _ _ w)) rfl ?_
      refine J.alloc ze41 rfl fun g6 => ?_
      refine J.storeAll rfl rfl (by first | exact bytesC_one _ | exact intsC_one _ | exact Term.c_one _ | simp [Value.oneCell']) (by simpa [*] using sz41) (by simp [*]) At.z ?_
      refine J.nil ?_
      refine EJ.thenN (hK7 ?_)
      refine CJ.seq fun _ hK8 _ => ?_
      refine CJ.seq fun _ hK9 _ => ?_
      refine CJ.region ?_
      refine J.p (PR.assign rfl) rfl ?_
      refine J.nil ?_
      refine EJ.thenN (hK9 ?_)
      refine CJ.block ?_
      refine CJ.loopU (σ := Option Addr × Nat × Vs × Nat) (fun ⟨q, c, vs, i⟩ => [(7, .int .i64 (i : Int))]) (fun ⟨q, c, vs, i⟩ => H) (fun ⟨q, c, vs, i⟩ => obj g6 (.cells [.slice qo26 (ad.take K).length co26, .slice q i c].toArray 41 (0, 0)) :: ownTs 88 vs (af.take i) :: own 29 1 q i c (slicesC vs (af.take i)) :: own 2 1 qo26 (ad.take K).length co26 (intsC (ad.take K)) :: obj g4 (.cells [.slice none 0 0, .slice none 0 0].toArray 41 (0, 0)) :: obj g2 (.cells [.slice qad ad.length cad, .slice qaf af.length caf].toArray 41 (0, 0)) :: L) (fun ⟨q, c, vs, i⟩ => i ≤ K ∧ ∀ x, x < i → isForm (ad.take K) (fm af x) = true) (fun ⟨q, c, vs, i⟩ => K - i) (none, 0, nilVs, 0) ⟨by show 0 ≤ K; omega, fun x hx => absurd hx (by show ¬ x < 0; omega)⟩ ⟨rfl, trivial⟩ rfl rfl ?_
      rintro ⟨q, c, vs, i⟩ ⟨hi, hI⟩ _ hAg0
      have hli := hl9 i
      have hn8a := hA.hn
      refine CJ.seq fun _ hK10 _ => ?_
      refine CJ.seq fun _ hK11 _ => ?_
      refine CJ.region ?_
      refine J.p (PR.move rfl) rfl ?_
      refine J.p (PR.move rfl) rfl ?_
      refine J.p (PR.lss rfl rfl) rfl ?_
      refine J.nil ?_
      refine EJ.thenN (hK11 ?_)
      refine CJ.condD rfl (fun hc30 => ?_) (fun hc30 => ?_)
      ·
        refine CJ.skip ?_
        refine EJ.thenN (hK10 ?_)
        refine CJ.seq fun _ hK12 _ => ?_
        refine CJ.block ?_
        refine CJ.seq fun _ hK13 _ => ?_
        refine CJ.seq fun _ hK14 _ => ?_
        refine CJ.region ?_
        refine J.p (PR.move rfl) rfl ?_
        refine J.p (PR.assign rfl) rfl ?_
        refine J.nil ?_
        refine EJ.thenN (hK14 ?_)
        refine CJ.block ?_
        refine CJ.loopU (σ := Nat) (fun (j : Nat) => [(8, .int .i64 (j : Int))]) (fun (j : Nat) => H) (fun (j : Nat) => obj g6 (.cells [.slice qo26 (ad.take K).length co26, .slice q i c].toArray 41 (0, 0)) :: ownTs 88 vs (af.take i) :: own 29 1 q i c (slicesC vs (af.take i)) :: own 2 1 qo26 (ad.take K).length co26 (intsC (ad.take K)) :: obj g4 (.cells [.slice none 0 0, .slice none 0 0].toArray 41 (0, 0)) :: obj g2 (.cells [.slice qad ad.length cad, .slice qaf af.length caf].toArray 41 (0, 0)) :: L) (fun (j : Nat) => K ≤ j ∧ j ≤ ad.length ∧ ∀ x, K ≤ x → x < j → hasG (fm af i) x = false) (fun (j : Nat) => ad.length - j) K ⟨by omega, by omega, fun x h1 h2 => absurd h1 (by omega)⟩ ⟨rfl, trivial⟩ rfl rfl ?_
        rintro j ⟨hj0, hj, hJ⟩ _ hAg1
        refine CJ.seq fun _ hK15 _ => ?_
        refine CJ.seq fun _ hK16 _ => ?_
        refine CJ.region ?_
        refine J.p (PR.move rfl) rfl ?_
        refine J.p (PR.fldA u41 rfl sz22 rfl) rfl ?_
        refine J.p (PR.load rfl (.s (.s (.s (.s (.s .z))))) rfl pl22) rfl ?_
        refine J.p (PR.lenSlice u22 rfl rfl) rfl ?_
        refine J.p (PR.lss rfl rfl) rfl ?_
        refine J.nil ?_
        refine EJ.thenN (hK16 ?_)
        refine CJ.condD rfl (fun hc38 => ?_) (fun hc38 => ?_)
        ·
          refine CJ.skip ?_
          refine EJ.thenN (hK15 ?_)
          refine CJ.seq fun _ hK17 _ => ?_
          refine CJ.block ?_
          refine CJ.seq fun _ hK18 _ => ?_
          refine CJ.region ?_
          refine J.p (PR.fldA u41 rfl sz39 rfl) rfl ?_
          refine J.p (PR.load rfl (.s (.s (.s (.s (.s .z))))) rfl pl39) rfl ?_
          refine J.p (PR.move rfl) rfl ?_
          refine J.p (PR.idx1 u39 sz29 rfl rfl rfl (by omega) haf.sm) rfl ?_
          obtain ⟨qe45, ce45, he45, le45, Fe45⟩ := haf i (by omega)
          refine J.p (PR.loadHagg (cs := [_]) rfl (one_cell he45) (haf.sm (i := i) (by omega)) ag29) rfl ?_
          refine J.p (PR.move rfl) rfl ?_
          refine J.call fn115 rfl rfl fun w hH => (l06Has_c (j := j) Fe45 (by omega) (by have := hli (by omega); omega) hH).mono ?_
          rintro _ w ⟨rfl, hH⟩
          refine ⟨_, rfl, fun a hF => J.of hF hH ?_⟩
          refine J.nil ?_
          refine EJ.thenN (hK18 ?_)
          refine CJ.cond rfl (fun h47 => ?_) (fun h47 => ?_)
          ·
            refine CJ.seq fun _ hK19 _ => ?_
            refine CJ.region ?_
            refine J.p (PR.buildZ bz41) rfl ?_
            refine J.storeAll rfl rfl (by first | exact bytesC_one _ | exact intsC_one _ | exact Term.c_one _ | simp [Value.oneCell']) (by simpa [*] using sz41) (by simp [*]) (.s (.s (.s (.s .z)))) ?_
            refine J.p (PR.assign rfl) rfl ?_
            refine J.nil ?_
            refine EJ.thenN (hK19 ?_)
            refine CJ.ret ?_
            refine EJ.inR ?_
            refine EJ.thenR ?_
            refine EJ.thenR ?_
            refine EJ.inR ?_
            refine EJ.thenR ?_
            refine EJ.inR ?_
            refine EJ.thenR ?_
            refine EJ.thenR ?_
            refine EJ.inR ?_
            refine EJ.thenR ?_
            refine EJ.ret2 rfl (Res.agg rfl (.s (.s (.s (.s .z)))) (by simpa [*] using ag41)) (Res.tmp rfl) fun w hH => ?_
            replace hH := hH.sublist (.cons _ (.cons _ (.cons _ (.cons _ (.cons _ (.cons _ (List.Sublist.refl _)))))))
            have hno := sub_no (ds := ad) (ts := fm af i) (K := K) (by omega) hj0 (by omega) h47
            obtain ⟨e1, e2, e3⟩ := sb3 (i := i) (K := K) hPa hin (by omega) hno
            rw [e1, e2, e3]
            exact ⟨none, 0, none, 0, nilVs, rfl, ((hH.ownFsNil 29 88).own0 2 1)⟩
          ·
            refine CJ.skip ?_
            refine EJ.inN ?_
            refine EJ.thenN (hK17 ?_)
            refine CJ.region ?_
            refine J.p (PR.move rfl) rfl ?_
            refine J.p (PR.add rfl rfl (by first | exact nw _ (by omega) | rfl)) rfl ?_
            refine J.p (PR.assign rfl) rfl ?_
            refine J.nil ?_
            refine EJ.thenN ?_
            exact hAg1 (j + 1) ⟨by omega, by omega, upto2 hJ (notf2 h47)⟩ (by omega) 16 rfl rfl ⟨rfl, trivial⟩ rfl rfl
        ·
          refine CJ.exit ?_
          refine EJ.thenE ?_
          refine EJ.thenE ?_
          refine EJ.inE ?_
          refine EJ.thenN (hK13 ?_)
          refine CJ.openR (Rs := [_, _, _, _, _, _]) 12 [[], [0], [], [2], [], [2, 3, 4], [2, 3, 4, 5], [2, 3, 4, 5, 6], [2, 3, 4, 5, 6, 7], [0, 1, 2, 3, 4, 5, 6, 7, 8], [0, 1, 2, 3, 4, 5, 6, 7, 8, 9], [0, 1, 2, 3, 4, 5, 6, 7, 8, 9, 10]] [[], [12], [], [17], [], [], [], [], [], [8], [], []] [[], [], [], [], [], [], [], [], [], [14], [], [12]] rfl rfl (by kernel_rfl) ?_
          apply GJ.st0 1 rfl
          · intro gh; conv => lhs; simp only [slotsZ, zlAt, vs0, resL, at2, eq_self, Nat.reduceEqDiff, reduceIte, Nat.reduceSub, Nat.reduceAdd, List.cons_append, List.nil_append]
            all_goals rfl
          · intro gh X; conv => lhs; simp only [slotsZ, zlAt, vs0, resL, at2, eq_self, Nat.reduceEqDiff, reduceIte, Nat.reduceSub, Nat.reduceAdd, List.cons_append, List.nil_append]
            all_goals rfl
          · intro gh X; conv => lhs; simp only [slotsZ, zlAt, vs0, resL, at2, eq_self, Nat.reduceEqDiff, reduceIte, Nat.reduceSub, Nat.reduceAdd, List.cons_append, List.nil_append]
            all_goals rfl
          ·
            intro gh X K zq zc zq2 zc2 zb zv hK
            refine J.p (PR.fldA u41 rfl sz39 rfl) rfl ?_
            refine J.nilK ?_
            exact hK zq zc zq2 zc2 zb zv
          ·
            intro gh gh' h
            rfl
          apply GJ.st0 2 rfl
          · intro gh; conv => lhs; simp only [slotsZ, zlAt, vs0, resL, at2, eq_self, Nat.reduceEqDiff, reduceIte, Nat.reduceSub, Nat.reduceAdd, List.cons_append, List.nil_append]
            all_goals rfl
          · intro gh X; conv => lhs; simp only [slotsZ, zlAt, vs0, resL, at2, eq_self, Nat.reduceEqDiff, reduceIte, Nat.reduceSub, Nat.reduceAdd, List.cons_append, List.nil_append]
            all_goals rfl
          · intro gh X; conv => lhs; simp only [slotsZ, zlAt, vs0, resL, at2, eq_self, Nat.reduceEqDiff, reduceIte, Nat.reduceSub, Nat.reduceAdd, List.cons_append, List.nil_append]
            all_goals rfl
          ·
            intro gh X K zq zc zq2 zc2 zb zv hK
            refine J.p (PR.load rfl At.z rfl pl39) rfl ?_
            refine J.nilK ?_
            exact hK zq zc zq2 zc2 zb zv
          ·
            intro gh gh' h
            rfl
          apply GJ.st0 3 rfl
          · intro gh; conv => lhs; simp only [slotsZ, zlAt, vs0, resL, at2, eq_self, Nat.reduceEqDiff, reduceIte, Nat.reduceSub, Nat.reduceAdd, List.cons_append, List.nil_append]
            all_goals rfl
          · intro gh X; conv => lhs; simp only [slotsZ, zlAt, vs0, resL, at2, eq_self, Nat.reduceEqDiff, reduceIte, Nat.reduceSub, Nat.reduceAdd, List.cons_append, List.nil_append]
            all_goals rfl
          · intro gh X; conv => lhs; simp only [slotsZ, zlAt, vs0, resL, at2, eq_self, Nat.reduceEqDiff, reduceIte, Nat.reduceSub, Nat.reduceAdd, List.cons_append, List.nil_append]
            all_goals rfl
          ·
            intro gh X K zq zc zq2 zc2 zb zv hK
            refine J.p (PR.fldA u41 rfl sz39 rfl) rfl ?_
            refine J.nilK ?_
            exact hK zq zc zq2 zc2 zb zv
          ·
            intro gh gh' h
            rfl
          apply GJ.st0 4 rfl
          · intro gh; conv => lhs; simp only [slotsZ, zlAt, vs0, resL, at2, eq_self, Nat.reduceEqDiff, reduceIte, Nat.reduceSub, Nat.reduceAdd, List.cons_append, List.nil_append]
            all_goals rfl
          · intro gh X; conv => lhs; simp only [slotsZ, zlAt, vs0, resL, at2, eq_self, Nat.reduceEqDiff, reduceIte, Nat.reduceSub, Nat.reduceAdd, List.cons_append, List.nil_append]
            all_goals rfl
          · intro gh X; conv => lhs; simp only [slotsZ, zlAt, vs0, resL, at2, eq_self, Nat.reduceEqDiff, reduceIte, Nat.reduceSub, Nat.reduceAdd, List.cons_append, List.nil_append]
            all_goals rfl
          ·
            intro gh X K zq zc zq2 zc2 zb zv hK
            refine J.p (PR.load rfl At.z rfl pl39) rfl ?_
            refine J.nilK ?_
            exact hK zq zc zq2 zc2 zb zv
          ·
            intro gh gh' h
            rfl
          apply GJ.st0 5 rfl
          · intro gh; conv => lhs; simp only [slotsZ, zlAt, vs0, resL, at2, eq_self, Nat.reduceEqDiff, reduceIte, Nat.reduceSub, Nat.reduceAdd, List.cons_append, List.nil_append]
            all_goals rfl
          · intro gh X; conv => lhs; simp only [slotsZ, zlAt, vs0, resL, at2, eq_self, Nat.reduceEqDiff, reduceIte, Nat.reduceSub, Nat.reduceAdd, List.cons_append, List.nil_append]
            all_goals rfl
          · intro gh X; conv => lhs; simp only [slotsZ, zlAt, vs0, resL, at2, eq_self, Nat.reduceEqDiff, reduceIte, Nat.reduceSub, Nat.reduceAdd, List.cons_append, List.nil_append]
            all_goals rfl
          ·
            intro gh X K zq zc zq2 zc2 zb zv hK
            refine J.p (PR.move rfl) rfl ?_
            refine J.nilK ?_
            exact hK zq zc zq2 zc2 zb zv
          ·
            intro gh gh' h
            rfl
          apply GJ.st0 6 rfl
          · intro gh; conv => lhs; simp only [slotsZ, zlAt, vs0, resL, at2, eq_self, Nat.reduceEqDiff, reduceIte, Nat.reduceSub, Nat.reduceAdd, List.cons_append, List.nil_append]
            all_goals rfl
          · intro gh X; conv => lhs; simp only [slotsZ, zlAt, vs0, resL, at2, eq_self, Nat.reduceEqDiff, reduceIte, Nat.reduceSub, Nat.reduceAdd, List.cons_append, List.nil_append]
            all_goals rfl
          · intro gh X; conv => lhs; simp only [slotsZ, zlAt, vs0, resL, at2, eq_self, Nat.reduceEqDiff, reduceIte, Nat.reduceSub, Nat.reduceAdd, List.cons_append, List.nil_append]
            all_goals rfl
          ·
            intro gh X K zq zc zq2 zc2 zb zv hK
            refine J.p (PR.idx1 u39 sz29 rfl rfl rfl (by omega) haf.sm) rfl ?_
            refine J.nilK ?_
            exact hK zq zc zq2 zc2 zb zv
          ·
            intro gh gh' h
            rfl
          obtain ⟨qe55, ce55, he55, le55, Fe55⟩ := haf i (by omega)
          apply GJ.st0 7 rfl
          · intro gh; conv => lhs; simp only [slotsZ, zlAt, vs0, resL, at2, eq_self, Nat.reduceEqDiff, reduceIte, Nat.reduceSub, Nat.reduceAdd, List.cons_append, List.nil_append]
            all_goals rfl
          · intro gh X; conv => lhs; simp only [slotsZ, zlAt, vs0, resL, at2, eq_self, Nat.reduceEqDiff, reduceIte, Nat.reduceSub, Nat.reduceAdd, List.cons_append, List.nil_append]
            all_goals rfl
          · intro gh X; conv => lhs; simp only [slotsZ, zlAt, vs0, resL, at2, eq_self, Nat.reduceEqDiff, reduceIte, Nat.reduceSub, Nat.reduceAdd, List.cons_append, List.nil_append]
            all_goals rfl
          ·
            intro gh X K zq zc zq2 zc2 zb zv hK
            refine J.p (PR.loadHagg (cs := [_]) rfl (one_cell he55) (haf.sm (i := i) (by omega)) ag29) rfl ?_
            refine J.nilK ?_
            exact hK zq zc zq2 zc2 zb zv
          ·
            intro gh gh' h
            rfl
          apply GJ.st1 8 rfl
          · intro gh; conv => lhs; simp only [slotsZ, zlAt, vs0, resL, at2, eq_self, Nat.reduceEqDiff, reduceIte, Nat.reduceSub, Nat.reduceAdd, List.cons_append, List.nil_append]
            all_goals rfl
          · intro gh X; conv => lhs; simp only [slotsZ, zlAt, vs0, resL, at2, eq_self, Nat.reduceEqDiff, reduceIte, Nat.reduceSub, Nat.reduceAdd, List.cons_append, List.nil_append]
            all_goals rfl
          · intro gh X; conv => lhs; simp only [slotsZ, zlAt, vs0, resL, at2, eq_self, Nat.reduceEqDiff, reduceIte, Nat.reduceSub, Nat.reduceAdd, List.cons_append, List.nil_append]
            all_goals rfl
          ·
            intro gh X K zq zc zq2 zc2 zb zv hK
            refine J.call fn116 rfl rfl fun w hH => (l02Copy_0 Fe55 (hli (by omega)) hH).mono ?_
            rintro _ w ⟨qo56, co56, rfl, hH⟩
            refine ⟨_, rfl, fun a hF => J.of hF hH ?_⟩
            refine J.nilK ?_
            exact hK qo56 co56 zq2 zc2 zb zv
          ·
            intro gh gh' h
            refine ⟨?_, ?_⟩ <;> rfl
          apply GJ.st1 9 rfl
          · intro gh; conv => lhs; simp only [slotsZ, zlAt, vs0, resL, at2, eq_self, Nat.reduceEqDiff, reduceIte, Nat.reduceSub, Nat.reduceAdd, List.cons_append, List.nil_append]
            all_goals rfl
          · intro gh X; conv => lhs; simp only [slotsZ, zlAt, vs0, resL, at2, eq_self, Nat.reduceEqDiff, reduceIte, Nat.reduceSub, Nat.reduceAdd, List.cons_append, List.nil_append]
            all_goals rfl
          · intro gh X; conv => lhs; simp only [slotsZ, zlAt, vs0, resL, at2, eq_self, Nat.reduceEqDiff, reduceIte, Nat.reduceSub, Nat.reduceAdd, List.cons_append, List.nil_append]
            all_goals rfl
          ·
            intro gh X K zq zc zq2 zc2 zb zv hK
            refine J.mk (MK.lit1S u39 ze29 sz29 rfl rfl) rfl fun qo57 co57 => ?_
            refine J.nilK ?_
            exact hK qo57 co57 zq2 zc2 zb zv
          ·
            intro gh gh' h
            refine ⟨?_, ?_⟩ <;> (first | simp only [h 7 rfl] | rfl)
          apply GJ.st1 10 rfl
          · intro gh; conv => lhs; simp only [slotsZ, zlAt, vs0, resL, at2, eq_self, Nat.reduceEqDiff, reduceIte, Nat.reduceSub, Nat.reduceAdd, List.cons_append, List.nil_append]
            all_goals rfl
          · intro gh X; conv => lhs; simp only [slotsZ, zlAt, vs0, resL, at2, eq_self, Nat.reduceEqDiff, reduceIte, Nat.reduceSub, Nat.reduceAdd, List.cons_append, List.nil_append]
            all_goals rfl
          · intro gh X; conv => lhs; simp only [slotsZ, zlAt, vs0, resL, at2, eq_self, Nat.reduceEqDiff, reduceIte, Nat.reduceSub, Nat.reduceAdd, List.cons_append, List.nil_append]
            all_goals rfl
          ·
            intro gh X K zq zc zq2 zc2 zb zv hK
            refine J.append1 u39 ze29 sz29 by29 rfl rfl rfl rfl (by omega) (.s .z) At.z (fun _ _ => At.z) rfl fun qo58 co58 => ?_
            refine EJ.front .z ?_
            refine EJ.front (.s .z) ?_
            refine J.nilK ?_
            exact hK qo58 co58 zq2 zc2 zb zv
          ·
            intro gh gh' h
            refine ⟨?_, ?_⟩ <;> (first | simp only [h 7 rfl, h 8 rfl] | rfl)
          apply GJ.st0 11 rfl
          · intro gh; conv => lhs; simp only [slotsZ, zlAt, vs0, resL, at2, eq_self, Nat.reduceEqDiff, reduceIte, Nat.reduceSub, Nat.reduceAdd, List.cons_append, List.nil_append]
            all_goals rfl
          · intro gh X; conv => lhs; simp only [slotsZ, zlAt, vs0, resL, at2, eq_self, Nat.reduceEqDiff, reduceIte, Nat.reduceSub, Nat.reduceAdd, List.cons_append, List.nil_append]
            all_goals rfl
          · intro gh X; conv => lhs; simp only [slotsZ, zlAt, vs0, resL, at2, eq_self, Nat.reduceEqDiff, reduceIte, Nat.reduceSub, Nat.reduceAdd, List.cons_append, List.nil_append]
            all_goals rfl
          ·
            intro gh X K zq zc zq2 zc2 zb zv hK
            refine J.p (PR.fldA u41 rfl sz39 rfl) rfl ?_
            refine J.nilK ?_
            exact hK zq zc zq2 zc2 zb zv
          ·
            intro gh gh' h
            first | simp only [h 7 rfl, h 8 rfl, h 9 rfl] | rfl
          apply GJ.sn1 12 rfl
          · intro gh; conv => lhs; simp only [slotsZ, zlAt, vs0, resL, at2, eq_self, Nat.reduceEqDiff, reduceIte, Nat.reduceSub, Nat.reduceAdd, List.cons_append, List.nil_append]
            all_goals rfl
          · intro gh X; conv => lhs; simp only [slotsZ, zlAt, vs0, resL, at2, eq_self, Nat.reduceEqDiff, reduceIte, Nat.reduceSub, Nat.reduceAdd, List.cons_append, List.nil_append]
            all_goals rfl
          · intro gh X; conv => lhs; simp only [slotsZ, zlAt, vs0, resL, at2, eq_self, Nat.reduceEqDiff, reduceIte, Nat.reduceSub, Nat.reduceAdd, List.cons_append, List.nil_append]
            all_goals rfl
          ·
            intro gh X K hK
            refine J.store rfl rfl rfl rfl sz39 (by simp [*]) At.z ?_
            refine J.nilK ?_
            exact hK
          ·
            intro gh gh' h
            first | simp only [h 7 rfl, h 8 rfl, h 9 rfl] | rfl
          apply GJ.close [0, 1, 2, 3, 4, 5, 6, 7, 8, 9, 10, 11] [0, 1, 2, 3, 4, 5, 6, 7, 8, 9, 10, 11, 13, 15, 16, 17] foll0 rfl rfl rfl (by rfl)
          · intro gh; conv => lhs; simp only [slotsZ, zlAt, vs0, resL, at2, eq_self, Nat.reduceEqDiff, reduceIte, Nat.reduceSub, Nat.reduceAdd, List.cons_append, List.nil_append]
            all_goals rfl
          · intro gh; conv => lhs; simp only [slotsZ, zlAt, vs0, resL, at2, eq_self, Nat.reduceEqDiff, reduceIte, Nat.reduceSub, Nat.reduceAdd, List.cons_append, List.nil_append]
            all_goals rfl
          intro gh
          generalize (gh 7).c = co56
          generalize (gh 7).q = qo56
          generalize (gh 8).c = co57
          generalize (gh 8).q = qo57
          generalize (gh 9).c = co58
          generalize (gh 9).q = qo58
          clear gh
          refine EJ.inN ?_
          refine EJ.thenN (hK12 ?_)
          refine CJ.region ?_
          refine J.p (PR.move rfl) rfl ?_
          refine J.p (PR.add rfl rfl (by first | exact nw _ (by omega) | rfl)) rfl ?_
          refine J.p (PR.assign rfl) rfl ?_
          refine J.nil ?_
          refine EJ.thenN ?_
          refine EJ.front (.s (.s (.s (.s (.s (.s (.s .z))))))) ?_
          refine EJ.front (.s (.s (.s (.s (.s (.s (.s .z))))))) ?_
          refine EJ.front (.s (.s (.s (.s (.s (.s (.s .z))))))) ?_
          refine EJ.front (.s (.s (.s (.s (.s (.s .z)))))) ?_
          refine EJ.front (.s (.s (.s (.s (.s (.s .z)))))) ?_
          refine EJ.front (.s (.s (.s (.s (.s (.s .z)))))) ?_
          refine EJ.front (.s (.s (.s (.s (.s (.s (.s .z))))))) ?_
          refine EJ.front (.s (.s (.s (.s (.s (.s (.s .z))))))) ?_
          refine EJ.fsSnoc (fs := af.take i) (List.length_take_of_le (by omega)) rfl ?_
          refine EJ.drop (.s .z) ?_
          refine EJ.front (.s (.s (.s (.s (.s .z))))) ?_
          refine EJ.front (.s (.s (.s (.s (.s .z))))) ?_
          refine EJ.front (.s (.s (.s (.s (.s .z))))) ?_
          refine EJ.front (.s (.s (.s (.s .z)))) ?_
          refine EJ.front (.s (.s (.s (.s .z)))) ?_
          refine EJ.front (.s (.s (.s (.s (.s .z))))) ?_
          exact hAg0 (qo58, co58, setV vs i (qo56, co56), i + 1) ⟨by show i + 1 ≤ K; omega, upto hI (sub_yes (by omega) (hA.wf.fm i) (hA.ok i (by omega)) (fun x hx h2 => hJ x hx (by omega)))⟩ (by show K - (i + 1) < K - i; omega) 26 rfl rfl ⟨rfl, trivial⟩ rfl (by dsimp only; rw [take_fm (by omega), slicesC_set (List.length_take_of_le (by omega))]; rfl)
      ·
        refine CJ.exit ?_
        refine EJ.thenE ?_
        refine EJ.thenE ?_
        refine EJ.inE ?_
        refine EJ.thenN (hK8 ?_)
        refine CJ.seq fun _ hK20 _ => ?_
        refine CJ.region ?_
        refine J.p (PR.loadAll rfl At.z (by simpa [*] using ag41)) rfl ?_
        refine J.storeAll rfl rfl (by first | exact bytesC_one _ | exact intsC_one _ | exact Term.c_one _ | simp [Value.oneCell']) (by simpa [*] using sz41) (by simp [*]) (.s (.s (.s (.s .z)))) ?_
        refine J.p (PR.assign rfl) rfl ?_
        refine J.nil ?_
        refine EJ.thenN (hK20 ?_)
        refine CJ.ret ?_
        refine EJ.ret2 rfl (Res.agg rfl (.s (.s (.s (.s .z)))) (by simpa [*] using ag41)) (Res.tmp rfl) fun w hH => ?_
        replace hH := hH.sublist (.cons _ (.cons_cons _ (.cons_cons _ (.cons_cons _ (.cons _ (.cons _ (List.Sublist.refl _)))))))
        obtain rfl : i = K := by omega
        obtain ⟨e1, e2, e3⟩ := sb4 hPa hin (fun x hx => hI x hx)
        rw [e1, e2, e3]
        exact ⟨_, _, q, c, vs, by rw [hfl], by unfold ownFs; rw [hfl]; exact (((hH.front (.s .z)).star.front (.s .z)))⟩
theorem sb_first {ad : List Int} {af : List (List Term)} {k : Int} : firstOf [codeA ad af [], if !(decide (0 ≤ k) && decide (k ≤ (ad.length : Int))) then 2 else 0] = if isAlg ad af then (if sbIn ad k then 0 else 2) else 1 := by
  rw [codeA_nil]
  unfold algC sbIn
  cases isAlg ad af <;> cases (decide (0 ≤ k) && decide (k ≤ (ad.length : Int))) <;> rfl
theorem sb_firstn {a b : Bool} (h : (if a then (if b then 0 else 2) else 1 : Int) ≠ 0) : a = false ∨ a = true ∧ b = false := by cases a <;> cases b <;> simp at h ⊢
theorem sb_firsty {a b : Bool} (h : ¬ (if a then (if b then 0 else 2) else 1 : Int) ≠ 0) : a = true ∧ b = true := by cases a <;> cases b <;> simp at h ⊢
theorem sb_not {ds : List Int} {fs : List (List Term)} {k : Int} (h : isAlg ds fs = false ∨ isAlg ds fs = true ∧ sbIn ds k = false) : sbD ds fs k = [] ∧ sbF ds fs k = [] ∧ sbC ds fs k = (if isAlg ds fs then (if sbIn ds k then 0 else 2) else 1) := by
  rcases h with h | ⟨h, h2⟩
  · obtain ⟨e1, e2, e3⟩ := sb1 (fs := fs) (k := k) h
    rw [e1, e2, e3, h]
    exact ⟨rfl, rfl, rfl⟩
  · obtain ⟨e1, e2, e3⟩ := sb2 (fs := fs) h h2
    rw [e1, e2, e3, h, h2]
    exact ⟨rfl, rfl, rfl⟩
set_option maxHeartbeats 2000000 in
set_option maxRecDepth 10000 in
theorem SubAlgebra_c {B : World} {H0 H : HP} {L : List SA} {w : World} {qad qaf : Option Addr} {cad caf : Nat} {ad : List Int} {af : List (List Term)} {k : Int}  (had : Ints H qad ad) (haf : Forms H qaf af) (hn8 : ad.length ≤ 1048576) (hn9 : af.length ≤ 1048576) (hl9 : ∀ i, i < af.length → (fm af i).length ≤ 1048576) (hca : ad.length ≤ cad) (hcf : af.length ≤ caf) (hH : Hp B H0 H L w) :
    Calls Try.prog 59 [.agg [.slice qad ad.length cad, .slice qaf af.length caf].toArray, .int .i64 k].toArray w fun e w' => ∃ qd cd qf cf vs, e = .returned (.tuple #[.agg [.slice qd (sbD ad af k).length cd, .slice qf (sbF ad af k).length cf].toArray, .int .i64 (sbC ad af k)]) ∧ Hp B H0 H (own 2 1 qd (sbD ad af k).length cd (intsC (sbD ad af k)) :: ownFs 29 88 qf cf vs (sbF ad af k) :: L) w' := by
  refine CJ.enter Try.func59 rfl 54 rfl rfl [(0, .agg [.slice qad ad.length cad, .slice qaf af.length caf].toArray), (1, .int .i64 k)] rfl hH ?_
  have hw0 := hH.old
  have hw1 := hH.le
  clear hH
  refine CJ.seq fun _ hK1 _ => ?_
  refine CJ.region ?_
  refine J.box rfl rfl rfl fun g2 => ?_
  refine J.freezeRow .z fun H2 hle2 hc2 => ?_
  replace had := had.le hle2
  replace haf := haf.le hle2
  have pad : CellAt H2 g2 0 (.slice qad ad.length cad) := hc2 0 _ rfl
  have paf : CellAt H2 g2 1 (.slice qaf af.length caf) := hc2 1 _ rfl
  refine J.alloc ze41 rfl fun g4 => ?_
  refine J.p (PR.assign rfl) rfl ?_
  refine J.nil ?_
  refine EJ.thenN (hK1 ?_)
  refine CJ.seq fun _ hK2 _ => ?_
  refine CJ.seq fun _ hK3 _ => ?_
  refine CJ.openR (Rs := [_]) 11 [[], [], [], [2], [2, 3], [0, 1, 2, 3, 4], [0, 1, 2, 3, 4, 5], [0, 1, 2, 3, 4, 5, 6], [0, 1, 2, 3, 4, 5, 6, 7], [0, 1, 2, 3, 4, 5, 6, 7, 8], [0, 1, 2, 3, 4, 5, 6, 7, 8, 9]] [[], [], [], [], [], [], [], [], [], [8], []] [[], [], [], [], [], [], [], [], [], [], []] rfl rfl (by kernel_rfl) ?_
  apply GJ.st0 1 rfl
  · intro gh; conv => lhs; simp only [slotsZ, zlAt, vs0, resL, at2, eq_self, Nat.reduceEqDiff, reduceIte, Nat.reduceSub, Nat.reduceAdd, List.cons_append, List.nil_append]
    all_goals rfl
  · intro gh X; conv => lhs; simp only [slotsZ, zlAt, vs0, resL, at2, eq_self, Nat.reduceEqDiff, reduceIte, Nat.reduceSub, Nat.reduceAdd, List.cons_append, List.nil_append]
    all_goals rfl
  · intro gh X; conv => lhs; simp only [slotsZ, zlAt, vs0, resL, at2, eq_self, Nat.reduceEqDiff, reduceIte, Nat.reduceSub, Nat.reduceAdd, List.cons_append, List.nil_append]
    all_goals rfl
  ·
    intro gh X K zq zc zq2 zc2 zb zv hK
    refine J.call fn99 rfl rfl fun w hH => (algebraCode_c pad paf had haf (forms_nil H2) hn8 hn9 hl9 (by simp) (fun i hi => by simp at hi) hH).mono ?_
    rintro _ w ⟨rfl, hH⟩
    refine ⟨_, rfl, fun a hF => J.of hF hH ?_⟩
    refine J.nilK ?_
    exact hK zq zc zq2 zc2 zb zv
  ·
    intro gh gh' h
    rfl
  apply GJ.st0 2 rfl
  · intro gh; conv => lhs; simp only [slotsZ, zlAt, vs0, resL, at2, eq_self, Nat.reduceEqDiff, reduceIte, Nat.reduceSub, Nat.reduceAdd, List.cons_append, List.nil_append]
    all_goals rfl
  · intro gh X; conv => lhs; simp only [slotsZ, zlAt, vs0, resL, at2, eq_self, Nat.reduceEqDiff, reduceIte, Nat.reduceSub, Nat.reduceAdd, List.cons_append, List.nil_append]
    all_goals rfl
  · intro gh X; conv => lhs; simp only [slotsZ, zlAt, vs0, resL, at2, eq_self, Nat.reduceEqDiff, reduceIte, Nat.reduceSub, Nat.reduceAdd, List.cons_append, List.nil_append]
    all_goals rfl
  ·
    intro gh X K zq zc zq2 zc2 zb zv hK
    refine J.p (PR.move rfl) rfl ?_
    refine J.nilK ?_
    exact hK zq zc zq2 zc2 zb zv
  ·
    intro gh gh' h
    rfl
  apply GJ.st0 3 rfl
  · intro gh; conv => lhs; simp only [slotsZ, zlAt, vs0, resL, at2, eq_self, Nat.reduceEqDiff, reduceIte, Nat.reduceSub, Nat.reduceAdd, List.cons_append, List.nil_append]
    all_goals rfl
  · intro gh X; conv => lhs; simp only [slotsZ, zlAt, vs0, resL, at2, eq_self, Nat.reduceEqDiff, reduceIte, Nat.reduceSub, Nat.reduceAdd, List.cons_append, List.nil_append]
    all_goals rfl
  · intro gh X; conv => lhs; simp only [slotsZ, zlAt, vs0, resL, at2, eq_self, Nat.reduceEqDiff, reduceIte, Nat.reduceSub, Nat.reduceAdd, List.cons_append, List.nil_append]
    all_goals rfl
  ·
    intro gh X K zq zc zq2 zc2 zb zv hK
    refine J.p (PR.fldA u41 rfl sz22 rfl) rfl ?_
    refine J.nilK ?_
    exact hK zq zc zq2 zc2 zb zv
  ·
    intro gh gh' h
    rfl
  apply GJ.st0 4 rfl
  · intro gh; conv => lhs; simp only [slotsZ, zlAt, vs0, resL, at2, eq_self, Nat.reduceEqDiff, reduceIte, Nat.reduceSub, Nat.reduceAdd, List.cons_append, List.nil_append]
    all_goals rfl
  · intro gh X; conv => lhs; simp only [slotsZ, zlAt, vs0, resL, at2, eq_self, Nat.reduceEqDiff, reduceIte, Nat.reduceSub, Nat.reduceAdd, List.cons_append, List.nil_append]
    all_goals rfl
  · intro gh X; conv => lhs; simp only [slotsZ, zlAt, vs0, resL, at2, eq_self, Nat.reduceEqDiff, reduceIte, Nat.reduceSub, Nat.reduceAdd, List.cons_append, List.nil_append]
    all_goals rfl
  ·
    intro gh X K zq zc zq2 zc2 zb zv hK
    refine J.p (PR.loadH (q := some ⟨g2, 0, none⟩) (k := 0) rfl pad pl22) rfl ?_
    refine J.nilK ?_
    exact hK zq zc zq2 zc2 zb zv
  ·
    intro gh gh' h
    rfl
  apply GJ.st0 5 rfl
  · intro gh; conv => lhs; simp only [slotsZ, zlAt, vs0, resL, at2, eq_self, Nat.reduceEqDiff, reduceIte, Nat.reduceSub, Nat.reduceAdd, List.cons_append, List.nil_append]
    all_goals rfl
  · intro gh X; conv => lhs; simp only [slotsZ, zlAt, vs0, resL, at2, eq_self, Nat.reduceEqDiff, reduceIte, Nat.reduceSub, Nat.reduceAdd, List.cons_append, List.nil_append]
    all_goals rfl
  · intro gh X; conv => lhs; simp only [slotsZ, zlAt, vs0, resL, at2, eq_self, Nat.reduceEqDiff, reduceIte, Nat.reduceSub, Nat.reduceAdd, List.cons_append, List.nil_append]
    all_goals rfl
  ·
    intro gh X K zq zc zq2 zc2 zb zv hK
    refine J.p (PR.lenSlice u22 rfl rfl) rfl ?_
    refine J.nilK ?_
    exact hK zq zc zq2 zc2 zb zv
  ·
    intro gh gh' h
    rfl
  apply GJ.st0 6 rfl
  · intro gh; conv => lhs; simp only [slotsZ, zlAt, vs0, resL, at2, eq_self, Nat.reduceEqDiff, reduceIte, Nat.reduceSub, Nat.reduceAdd, List.cons_append, List.nil_append]
    all_goals rfl
  · intro gh X; conv => lhs; simp only [slotsZ, zlAt, vs0, resL, at2, eq_self, Nat.reduceEqDiff, reduceIte, Nat.reduceSub, Nat.reduceAdd, List.cons_append, List.nil_append]
    all_goals rfl
  · intro gh X; conv => lhs; simp only [slotsZ, zlAt, vs0, resL, at2, eq_self, Nat.reduceEqDiff, reduceIte, Nat.reduceSub, Nat.reduceAdd, List.cons_append, List.nil_append]
    all_goals rfl
  ·
    intro gh X K zq zc zq2 zc2 zb zv hK
    refine J.call fn86 rfl rfl fun w hH => (within_c  hH).mono ?_
    rintro _ w ⟨rfl, hH⟩
    refine ⟨_, rfl, fun a hF => J.of hF hH ?_⟩
    refine J.nilK ?_
    exact hK zq zc zq2 zc2 zb zv
  ·
    intro gh gh' h
    rfl
  apply GJ.st0 7 rfl
  · intro gh; conv => lhs; simp only [slotsZ, zlAt, vs0, resL, at2, eq_self, Nat.reduceEqDiff, reduceIte, Nat.reduceSub, Nat.reduceAdd, List.cons_append, List.nil_append]
    all_goals rfl
  · intro gh X; conv => lhs; simp only [slotsZ, zlAt, vs0, resL, at2, eq_self, Nat.reduceEqDiff, reduceIte, Nat.reduceSub, Nat.reduceAdd, List.cons_append, List.nil_append]
    all_goals rfl
  · intro gh X; conv => lhs; simp only [slotsZ, zlAt, vs0, resL, at2, eq_self, Nat.reduceEqDiff, reduceIte, Nat.reduceSub, Nat.reduceAdd, List.cons_append, List.nil_append]
    all_goals rfl
  ·
    intro gh X K zq zc zq2 zc2 zb zv hK
    refine J.p (PR.not rfl) rfl ?_
    refine J.nilK ?_
    exact hK zq zc zq2 zc2 zb zv
  ·
    intro gh gh' h
    rfl
  apply GJ.st0 8 rfl
  · intro gh; conv => lhs; simp only [slotsZ, zlAt, vs0, resL, at2, eq_self, Nat.reduceEqDiff, reduceIte, Nat.reduceSub, Nat.reduceAdd, List.cons_append, List.nil_append]
    all_goals rfl
  · intro gh X; conv => lhs; simp only [slotsZ, zlAt, vs0, resL, at2, eq_self, Nat.reduceEqDiff, reduceIte, Nat.reduceSub, Nat.reduceAdd, List.cons_append, List.nil_append]
    all_goals rfl
  · intro gh X; conv => lhs; simp only [slotsZ, zlAt, vs0, resL, at2, eq_self, Nat.reduceEqDiff, reduceIte, Nat.reduceSub, Nat.reduceAdd, List.cons_append, List.nil_append]
    all_goals rfl
  ·
    intro gh X K zq zc zq2 zc2 zb zv hK
    refine J.call fn75 rfl rfl fun w hH => (when_c  hH).mono ?_
    rintro _ w ⟨rfl, hH⟩
    refine ⟨_, rfl, fun a hF => J.of hF hH ?_⟩
    refine J.nilK ?_
    exact hK zq zc zq2 zc2 zb zv
  ·
    intro gh gh' h
    rfl
  apply GJ.st1 9 rfl
  · intro gh; conv => lhs; simp only [slotsZ, zlAt, vs0, resL, at2, eq_self, Nat.reduceEqDiff, reduceIte, Nat.reduceSub, Nat.reduceAdd, List.cons_append, List.nil_append]
    all_goals rfl
  · intro gh X; conv => lhs; simp only [slotsZ, zlAt, vs0, resL, at2, eq_self, Nat.reduceEqDiff, reduceIte, Nat.reduceSub, Nat.reduceAdd, List.cons_append, List.nil_append]
    all_goals rfl
  · intro gh X; conv => lhs; simp only [slotsZ, zlAt, vs0, resL, at2, eq_self, Nat.reduceEqDiff, reduceIte, Nat.reduceSub, Nat.reduceAdd, List.cons_append, List.nil_append]
    all_goals rfl
  ·
    intro gh X K zq zc zq2 zc2 zb zv hK
    refine J.litI2 u22 ze2 sz2 rfl rfl rfl fun g18 => ?_
    refine J.nilK ?_
    exact hK zq zc zq2 zc2 g18 zv
  ·
    intro gh gh' h
    refine ⟨?_, ?_⟩ <;> rfl
  apply GJ.st0 10 rfl
  · intro gh; conv => lhs; simp only [slotsZ, zlAt, vs0, resL, at2, eq_self, Nat.reduceEqDiff, reduceIte, Nat.reduceSub, Nat.reduceAdd, List.cons_append, List.nil_append]
    all_goals rfl
  · intro gh X; conv => lhs; simp only [slotsZ, zlAt, vs0, resL, at2, eq_self, Nat.reduceEqDiff, reduceIte, Nat.reduceSub, Nat.reduceAdd, List.cons_append, List.nil_append]
    all_goals rfl
  · intro gh X; conv => lhs; simp only [slotsZ, zlAt, vs0, resL, at2, eq_self, Nat.reduceEqDiff, reduceIte, Nat.reduceSub, Nat.reduceAdd, List.cons_append, List.nil_append]
    all_goals rfl
  ·
    intro gh X K zq zc zq2 zc2 zb zv hK
    refine J.call fn74 rfl rfl fun w hH => hH.lend .z fun Hl1 hle1 hA1 hB1 hH => (first_c (own_ints hA1) (by simp) hH).mono ?_
    rintro _ w ⟨rfl, hH⟩
    replace hH := hB1 _ _ hH
    refine ⟨_, rfl, fun a hF => J.of hF hH ?_⟩
    refine J.nilK ?_
    exact hK zq zc zq2 zc2 zb zv
  ·
    intro gh gh' h
    first | simp only [h 8 rfl] | rfl
  apply GJ.st0 11 rfl
  · intro gh; conv => lhs; simp only [slotsZ, zlAt, vs0, resL, at2, eq_self, Nat.reduceEqDiff, reduceIte, Nat.reduceSub, Nat.reduceAdd, List.cons_append, List.nil_append]
    all_goals rfl
  · intro gh X; conv => lhs; simp only [slotsZ, zlAt, vs0, resL, at2, eq_self, Nat.reduceEqDiff, reduceIte, Nat.reduceSub, Nat.reduceAdd, List.cons_append, List.nil_append]
    all_goals rfl
  · intro gh X; conv => lhs; simp only [slotsZ, zlAt, vs0, resL, at2, eq_self, Nat.reduceEqDiff, reduceIte, Nat.reduceSub, Nat.reduceAdd, List.cons_append, List.nil_append]
    all_goals rfl
  ·
    intro gh X K zq zc zq2 zc2 zb zv hK
    refine J.p (PR.assign rfl) rfl ?_
    refine J.nilK ?_
    exact hK zq zc zq2 zc2 zb zv
  ·
    intro gh gh' h
    first | simp only [h 8 rfl] | rfl
  apply GJ.close [0, 1, 2, 3, 4, 5, 6, 7, 8, 9, 10] [0, 1, 2, 3, 4, 5, 6, 7, 8, 9, 10, 11] foll0 rfl rfl rfl (by rfl)
  · intro gh; conv => lhs; simp only [slotsZ, zlAt, vs0, resL, at2, eq_self, Nat.reduceEqDiff, reduceIte, Nat.reduceSub, Nat.reduceAdd, List.cons_append, List.nil_append]
    all_goals rfl
  · intro gh; conv => lhs; simp only [slotsZ, zlAt, vs0, resL, at2, eq_self, Nat.reduceEqDiff, reduceIte, Nat.reduceSub, Nat.reduceAdd, List.cons_append, List.nil_append]
    all_goals rfl
  intro gh
  generalize (gh 8).b = g18
  clear gh
  refine EJ.thenN (hK3 ?_)
  refine CJ.seq fun _ hK4 _ => ?_
  refine CJ.region ?_
  refine J.p (PR.move rfl) rfl ?_
  refine J.p (PR.neq rfl rfl) rfl ?_
  refine J.nil ?_
  refine EJ.thenN (hK4 ?_)
  refine CJ.condD rfl (fun h21 => ?_) (fun h21 => ?_)
  ·
    rw [sb_first] at h21 ⊢
    have hno := sb_firstn h21
    refine CJ.seq fun _ hK5 _ => ?_
    refine CJ.region ?_
    refine J.p (PR.buildZ bz41) rfl ?_
    refine J.p (PR.move rfl) rfl ?_
    refine J.storeAll rfl rfl (by first | exact bytesC_one _ | exact intsC_one _ | exact Term.c_one _ | simp [Value.oneCell']) (by simpa [*] using sz41) (by simp [*]) (.s .z) ?_
    refine J.p (PR.assign rfl) rfl ?_
    refine J.nil ?_
    refine EJ.thenN (hK5 ?_)
    refine CJ.ret ?_
    refine EJ.thenR ?_
    refine EJ.ret2 rfl (Res.agg rfl (.s .z) (by simpa [*] using ag41)) (Res.tmp rfl) fun w hH => ?_
    replace hH := hH.sublist (.cons _ (.cons _ (List.Sublist.refl _)))
    obtain ⟨e1, e2, e3⟩ := sb_not hno
    rw [e1, e2, ← e3]
    exact ⟨none, 0, none, 0, nilVs, rfl, ((hH.ownFsNil 29 88).own0 2 1).weaken hle2 hw0 hw1⟩
  ·
    rw [sb_first] at h21
    obtain ⟨hPa, hin⟩ := sb_firsty h21
    obtain ⟨hk0, hk1⟩ := sbIn_bd hin
    obtain ⟨K, rfl⟩ : ∃ K : Nat, k = (K : Int) := ⟨k.toNat, by omega⟩
    have hA := isAlg_ok hPa haf.wfss
    have hPl := isAlg_len hPa
    have hdl : (ad.take K).length = K := List.length_take_of_le (by omega)
    have hfl : (af.take K).length = K := List.length_take_of_le (by omega)
    refine CJ.skip ?_
    refine EJ.thenN (hK2 ?_)
    refine CJ.seq fun _ hK6 _ => ?_
    refine CJ.region ?_
    refine J.p (PR.fldA u41 rfl sz22 rfl) rfl ?_
    refine J.p (PR.loadH (q := some ⟨g2, 0, none⟩) (k := 0) rfl pad pl22) rfl ?_
    refine J.p (PR.move rfl) rfl ?_
    refine J.p (PR.sliceHi (i' := K) u22 sz2 rfl rfl rfl (by omega)) rfl ?_
    refine J.call fn117 rfl rfl fun w hH => (CloneI_m (ints_take had K) hdl (by omega) hH).mono ?_
    rintro _ w ⟨qo28, co28, rfl, hH⟩
    refine ⟨_, rfl, fun a hF => J.of hF hH ?_⟩
    refine J.own0 29 1 ?_
    refine J.ts0 88 ?_
    refine J.p (PR.build1 rfl (fun w => bd41_0 _ _ _ w)) rfl ?_
    refine J.alloc ze41 rfl fun g7 => ?_
    refine J.storeAll rfl rfl (by first | exact bytesC_one _ | exact intsC_one _ | exact Term.c_one _ | simp [Value.oneCell']) (by simpa [*] using sz41) (by simp [*]) At.z ?_
    refine J.nil ?_
    refine EJ.thenN (hK6 ?_)
    refine CJ.seq fun _ hK7 _ => ?_
    refine CJ.seq fun _ hK8 _ => ?_
    refine CJ.region ?_
    refine J.p (PR.fldA u41 rfl sz39 rfl) rfl ?_
    refine J.p (PR.loadH (q := some ⟨g2, 0, none⟩) (k := 1) rfl paf pl39) rfl ?_
    refine J.p (PR.move rfl) rfl ?_
    refine J.p (PR.sliceHi (i' := K) u39 sz29 rfl rfl rfl (by omega)) rfl ?_
    refine J.p (PR.lenSlice u39 rfl rfl) rfl ?_
    refine J.p (PR.move rfl) rfl ?_
    refine J.nil ?_
    refine EJ.thenN (hK8 ?_)
    refine CJ.block ?_
    refine CJ.loopU (σ := Option Addr × Nat × Vs × Nat) (fun ⟨q, c, vs, i⟩ => [(35, .int .i64 (i : Int))]) (fun ⟨q, c, vs, i⟩ => H2) (fun ⟨q, c, vs, i⟩ => obj g7 (.cells [.slice qo28 (ad.take K).length co28, .slice q i c].toArray 41 (0, 0)) :: ownTs 88 vs (af.take i) :: own 29 1 q i c (slicesC vs (af.take i)) :: own 2 1 qo28 (ad.take K).length co28 (intsC (ad.take K)) :: _ :: obj g4 (.cells [.slice none 0 0, .slice none 0 0].toArray 41 (0, 0)) :: L) (fun ⟨q, c, vs, i⟩ => i ≤ K ∧ ∀ x, x < i → isForm (ad.take K) (fm af x) = true) (fun ⟨q, c, vs, i⟩ => K - i) (none, 0, nilVs, 0) ⟨by show 0 ≤ K; omega, fun x hx => absurd hx (by show ¬ x < 0; omega)⟩ ⟨rfl, trivial⟩ rfl rfl ?_
    rintro ⟨q, c, vs, i⟩ ⟨hi, hI⟩ _ hAg0
    have hli := hl9 i
    have hn8a := hA.hn
    refine CJ.seq fun _ hK9 _ => ?_
    refine CJ.region ?_
    refine J.p (PR.lss rfl rfl) rfl ?_
    refine J.nil ?_
    refine EJ.thenN (hK9 ?_)
    refine CJ.seq fun _ hK10 _ => ?_
    refine CJ.condD rfl (fun hc36 => ?_) (fun hc36 => ?_)
    ·
      refine CJ.skip ?_
      refine EJ.thenN (hK10 ?_)
      refine CJ.seq fun _ hK11 _ => ?_
      refine CJ.block ?_
      refine CJ.seq fun _ hK12 _ => ?_
      refine CJ.region ?_
      refine J.p (PR.idx1 (i' := i) u39 sz29 rfl rfl rfl (by omega) (fun h => haf.sm (i := i) (by omega))) rfl ?_
      obtain ⟨qe38, ce38, he38, le38, Fe38⟩ := haf i (by omega)
      refine J.p (PR.loadHagg (cs := [_]) rfl (one_cell he38) (haf.sm (i := i) (by omega)) ag29) rfl ?_
      refine J.alloc ze29 rfl fun g9 => ?_
      refine J.storeAll rfl rfl (by first | exact bytesC_one _ | exact intsC_one _ | exact Term.c_one _ | simp [Value.oneCell']) (by simpa [*] using sz29) (by simp [*]) At.z ?_
      refine J.nil ?_
      refine EJ.thenN (hK12 ?_)
      refine CJ.seq fun _ hK13 _ => ?_
      refine CJ.seq fun _ hK14 _ => ?_
      refine CJ.region ?_
      refine J.p (PR.fldA u41 rfl sz22 rfl) rfl ?_
      refine J.p (PR.load rfl (.s .z) rfl pl22) rfl ?_
      refine J.p (PR.loadAll rfl At.z (by simpa [*] using ag29)) rfl ?_
      refine J.call fn91 rfl rfl fun w hH => hH.lend (.s (.s (.s (.s .z)))) fun Hl1 hle1 hA1 hB1 hH => (isForm_c (own_ints hA1) (Fe38.le hle1) (by omega) (by have := hli (by omega); omega) hH).mono ?_
      rintro _ w ⟨rfl, hH⟩
      replace hH := hB1 _ _ hH
      refine ⟨_, rfl, fun a hF => J.of hF hH ?_⟩
      refine J.p (PR.not rfl) rfl ?_
      refine J.nil ?_
      refine EJ.thenN (hK14 ?_)
      refine CJ.cond rfl (fun h43 => ?_) (fun h43 => ?_)
      ·
        refine CJ.seq fun _ hK15 _ => ?_
        refine CJ.region ?_
        refine J.p (PR.buildZ bz41) rfl ?_
        refine J.storeAll rfl rfl (by first | exact bytesC_one _ | exact intsC_one _ | exact Term.c_one _ | simp [Value.oneCell']) (by simpa [*] using sz41) (by simp [*]) (.s (.s (.s (.s (.s (.s .z)))))) ?_
        refine J.p (PR.assign rfl) rfl ?_
        refine J.nil ?_
        refine EJ.thenN (hK15 ?_)
        refine CJ.ret ?_
        refine EJ.thenR ?_
        refine EJ.inR ?_
        refine EJ.thenR ?_
        refine EJ.thenR ?_
        refine EJ.inR ?_
        refine EJ.thenR ?_
        refine EJ.ret2 rfl (Res.agg rfl (.s (.s (.s (.s (.s (.s .z)))))) (by simpa [*] using ag41)) (Res.tmp rfl) fun w hH => ?_
        replace hH := hH.sublist (.cons _ (.cons _ (.cons _ (.cons _ (.cons _ (.cons _ (.cons _ (List.Sublist.refl _))))))))
        obtain ⟨e1, e2, e3⟩ := sb3 (i := i) (K := K) hPa hin (by omega) (bnot_t h43)
        rw [e1, e2, e3]
        exact ⟨none, 0, none, 0, nilVs, rfl, ((hH.ownFsNil 29 88).own0 2 1).weaken hle2 hw0 hw1⟩
      ·
        refine CJ.skip ?_
        refine EJ.thenN (hK13 ?_)
        refine CJ.openR (Rs := [_, _, _, _, _, _, _]) 8 [[], [0], [], [2], [2, 3], [0, 1, 2, 3, 4], [0, 1, 2, 3, 4, 5], [0, 1, 2, 3, 4, 5, 6]] [[], [10], [9], [], [], [4], [], []] [[], [], [], [], [], [12], [], [10]] rfl rfl (by kernel_rfl) ?_
        apply GJ.st0 1 rfl
        · intro gh; conv => lhs; simp only [slotsZ, zlAt, vs0, resL, at2, eq_self, Nat.reduceEqDiff, reduceIte, Nat.reduceSub, Nat.reduceAdd, List.cons_append, List.nil_append]
          all_goals rfl
        · intro gh X; conv => lhs; simp only [slotsZ, zlAt, vs0, resL, at2, eq_self, Nat.reduceEqDiff, reduceIte, Nat.reduceSub, Nat.reduceAdd, List.cons_append, List.nil_append]
          all_goals rfl
        · intro gh X; conv => lhs; simp only [slotsZ, zlAt, vs0, resL, at2, eq_self, Nat.reduceEqDiff, reduceIte, Nat.reduceSub, Nat.reduceAdd, List.cons_append, List.nil_append]
          all_goals rfl
        ·
          intro gh X K zq zc zq2 zc2 zb zv hK
          refine J.p (PR.fldA u41 rfl sz39 rfl) rfl ?_
          refine J.nilK ?_
          exact hK zq zc zq2 zc2 zb zv
        ·
          intro gh gh' h
          rfl
        apply GJ.st0 2 rfl
        · intro gh; conv => lhs; simp only [slotsZ, zlAt, vs0, resL, at2, eq_self, Nat.reduceEqDiff, reduceIte, Nat.reduceSub, Nat.reduceAdd, List.cons_append, List.nil_append]
          all_goals rfl
        · intro gh X; conv => lhs; simp only [slotsZ, zlAt, vs0, resL, at2, eq_self, Nat.reduceEqDiff, reduceIte, Nat.reduceSub, Nat.reduceAdd, List.cons_append, List.nil_append]
          all_goals rfl
        · intro gh X; conv => lhs; simp only [slotsZ, zlAt, vs0, resL, at2, eq_self, Nat.reduceEqDiff, reduceIte, Nat.reduceSub, Nat.reduceAdd, List.cons_append, List.nil_append]
          all_goals rfl
        ·
          intro gh X K zq zc zq2 zc2 zb zv hK
          refine J.p (PR.load rfl At.z rfl pl39) rfl ?_
          refine J.nilK ?_
          exact hK zq zc zq2 zc2 zb zv
        ·
          intro gh gh' h
          rfl
        apply GJ.st0 3 rfl
        · intro gh; conv => lhs; simp only [slotsZ, zlAt, vs0, resL, at2, eq_self, Nat.reduceEqDiff, reduceIte, Nat.reduceSub, Nat.reduceAdd, List.cons_append, List.nil_append]
          all_goals rfl
        · intro gh X; conv => lhs; simp only [slotsZ, zlAt, vs0, resL, at2, eq_self, Nat.reduceEqDiff, reduceIte, Nat.reduceSub, Nat.reduceAdd, List.cons_append, List.nil_append]
          all_goals rfl
        · intro gh X; conv => lhs; simp only [slotsZ, zlAt, vs0, resL, at2, eq_self, Nat.reduceEqDiff, reduceIte, Nat.reduceSub, Nat.reduceAdd, List.cons_append, List.nil_append]
          all_goals rfl
        ·
          intro gh X K zq zc zq2 zc2 zb zv hK
          refine J.p (PR.loadAll rfl At.z (by simpa [*] using ag29)) rfl ?_
          refine J.nilK ?_
          exact hK zq zc zq2 zc2 zb zv
        ·
          intro gh gh' h
          rfl
        apply GJ.st1 4 rfl
        · intro gh; conv => lhs; simp only [slotsZ, zlAt, vs0, resL, at2, eq_self, Nat.reduceEqDiff, reduceIte, Nat.reduceSub, Nat.reduceAdd, List.cons_append, List.nil_append]
          all_goals rfl
        · intro gh X; conv => lhs; simp only [slotsZ, zlAt, vs0, resL, at2, eq_self, Nat.reduceEqDiff, reduceIte, Nat.reduceSub, Nat.reduceAdd, List.cons_append, List.nil_append]
          all_goals rfl
        · intro gh X; conv => lhs; simp only [slotsZ, zlAt, vs0, resL, at2, eq_self, Nat.reduceEqDiff, reduceIte, Nat.reduceSub, Nat.reduceAdd, List.cons_append, List.nil_append]
          all_goals rfl
        ·
          intro gh X K zq zc zq2 zc2 zb zv hK
          refine J.call fn118 rfl rfl fun w hH => (shifted_0 Fe38 (hli (by omega)) hH).mono ?_
          rintro _ w ⟨qo48, co48, rfl, hH⟩
          refine ⟨_, rfl, fun a hF => J.of hF hH ?_⟩
          refine J.nilK ?_
          exact hK qo48 co48 zq2 zc2 zb zv
        ·
          intro gh gh' h
          refine ⟨?_, ?_⟩ <;> rfl
        apply GJ.st1 5 rfl
        · intro gh; conv => lhs; simp only [slotsZ, zlAt, vs0, resL, at2, eq_self, Nat.reduceEqDiff, reduceIte, Nat.reduceSub, Nat.reduceAdd, List.cons_append, List.nil_append]
          all_goals rfl
        · intro gh X; conv => lhs; simp only [slotsZ, zlAt, vs0, resL, at2, eq_self, Nat.reduceEqDiff, reduceIte, Nat.reduceSub, Nat.reduceAdd, List.cons_append, List.nil_append]
          all_goals rfl
        · intro gh X; conv => lhs; simp only [slotsZ, zlAt, vs0, resL, at2, eq_self, Nat.reduceEqDiff, reduceIte, Nat.reduceSub, Nat.reduceAdd, List.cons_append, List.nil_append]
          all_goals rfl
        ·
          intro gh X K zq zc zq2 zc2 zb zv hK
          refine J.mk (MK.lit1S u39 ze29 sz29 rfl rfl) rfl fun qo49 co49 => ?_
          refine J.nilK ?_
          exact hK qo49 co49 zq2 zc2 zb zv
        ·
          intro gh gh' h
          refine ⟨?_, ?_⟩ <;> (first | simp only [h 3 rfl] | rfl)
        apply GJ.st1 6 rfl
        · intro gh; conv => lhs; simp only [slotsZ, zlAt, vs0, resL, at2, eq_self, Nat.reduceEqDiff, reduceIte, Nat.reduceSub, Nat.reduceAdd, List.cons_append, List.nil_append]
          all_goals rfl
        · intro gh X; conv => lhs; simp only [slotsZ, zlAt, vs0, resL, at2, eq_self, Nat.reduceEqDiff, reduceIte, Nat.reduceSub, Nat.reduceAdd, List.cons_append, List.nil_append]
          all_goals rfl
        · intro gh X; conv => lhs; simp only [slotsZ, zlAt, vs0, resL, at2, eq_self, Nat.reduceEqDiff, reduceIte, Nat.reduceSub, Nat.reduceAdd, List.cons_append, List.nil_append]
          all_goals rfl
        ·
          intro gh X K zq zc zq2 zc2 zb zv hK
          refine J.append1 u39 ze29 sz29 by29 rfl rfl rfl rfl (by omega) (.s .z) At.z (fun _ _ => At.z) rfl fun qo50 co50 => ?_
          refine EJ.front .z ?_
          refine EJ.front (.s .z) ?_
          refine J.nilK ?_
          exact hK qo50 co50 zq2 zc2 zb zv
        ·
          intro gh gh' h
          refine ⟨?_, ?_⟩ <;> (first | simp only [h 3 rfl, h 4 rfl] | rfl)
        apply GJ.st0 7 rfl
        · intro gh; conv => lhs; simp only [slotsZ, zlAt, vs0, resL, at2, eq_self, Nat.reduceEqDiff, reduceIte, Nat.reduceSub, Nat.reduceAdd, List.cons_append, List.nil_append]
          all_goals rfl
        · intro gh X; conv => lhs; simp only [slotsZ, zlAt, vs0, resL, at2, eq_self, Nat.reduceEqDiff, reduceIte, Nat.reduceSub, Nat.reduceAdd, List.cons_append, List.nil_append]
          all_goals rfl
        · intro gh X; conv => lhs; simp only [slotsZ, zlAt, vs0, resL, at2, eq_self, Nat.reduceEqDiff, reduceIte, Nat.reduceSub, Nat.reduceAdd, List.cons_append, List.nil_append]
          all_goals rfl
        ·
          intro gh X K zq zc zq2 zc2 zb zv hK
          refine J.p (PR.fldA u41 rfl sz39 rfl) rfl ?_
          refine J.nilK ?_
          exact hK zq zc zq2 zc2 zb zv
        ·
          intro gh gh' h
          first | simp only [h 3 rfl, h 4 rfl, h 5 rfl] | rfl
        apply GJ.sn1 8 rfl
        · intro gh; conv => lhs; simp only [slotsZ, zlAt, vs0, resL, at2, eq_self, Nat.reduceEqDiff, reduceIte, Nat.reduceSub, Nat.reduceAdd, List.cons_append, List.nil_append]
          all_goals rfl
        · intro gh X; conv => lhs; simp only [slotsZ, zlAt, vs0, resL, at2, eq_self, Nat.reduceEqDiff, reduceIte, Nat.reduceSub, Nat.reduceAdd, List.cons_append, List.nil_append]
          all_goals rfl
        · intro gh X; conv => lhs; simp only [slotsZ, zlAt, vs0, resL, at2, eq_self, Nat.reduceEqDiff, reduceIte, Nat.reduceSub, Nat.reduceAdd, List.cons_append, List.nil_append]
          all_goals rfl
        ·
          intro gh X K hK
          refine J.store rfl rfl rfl rfl sz39 (by simp [*]) At.z ?_
          refine J.nilK ?_
          exact hK
        ·
          intro gh gh' h
          first | simp only [h 3 rfl, h 4 rfl, h 5 rfl] | rfl
        apply GJ.close [0, 1, 2, 3, 4, 5, 6, 7] [0, 1, 2, 3, 4, 5, 6, 7, 8, 9, 11, 13, 14] foll0 rfl rfl rfl (by rfl)
        · intro gh; conv => lhs; simp only [slotsZ, zlAt, vs0, resL, at2, eq_self, Nat.reduceEqDiff, reduceIte, Nat.reduceSub, Nat.reduceAdd, List.cons_append, List.nil_append]
          all_goals rfl
        · intro gh; conv => lhs; simp only [slotsZ, zlAt, vs0, resL, at2, eq_self, Nat.reduceEqDiff, reduceIte, Nat.reduceSub, Nat.reduceAdd, List.cons_append, List.nil_append]
          all_goals rfl
        intro gh
        generalize (gh 3).c = co48
        generalize (gh 3).q = qo48
        generalize (gh 4).c = co49
        generalize (gh 4).q = qo49
        generalize (gh 5).c = co50
        generalize (gh 5).q = qo50
        clear gh
        refine EJ.inN ?_
        refine EJ.thenN (hK11 ?_)
        refine CJ.region ?_
        refine J.p (PR.add rfl rfl (by first | exact nw _ (by omega) | rfl)) rfl ?_
        refine J.p (PR.move rfl) rfl ?_
        refine J.nil ?_
        refine EJ.thenN ?_
        refine EJ.front (.s (.s (.s (.s (.s (.s (.s (.s .z)))))))) ?_
        refine EJ.front (.s (.s (.s (.s (.s (.s (.s (.s .z)))))))) ?_
        refine EJ.front (.s (.s (.s (.s (.s (.s (.s .z))))))) ?_
        refine EJ.front (.s (.s (.s (.s (.s (.s (.s .z))))))) ?_
        refine EJ.front (.s (.s (.s (.s (.s (.s (.s .z))))))) ?_
        refine EJ.front (.s (.s (.s (.s (.s (.s (.s .z))))))) ?_
        refine EJ.front (.s (.s (.s (.s (.s (.s (.s .z))))))) ?_
        refine EJ.front (.s (.s (.s (.s (.s (.s (.s (.s .z)))))))) ?_
        refine EJ.front (.s (.s (.s (.s (.s (.s (.s (.s .z)))))))) ?_
        refine EJ.fsSnoc (fs := af.take i) (List.length_take_of_le (by omega)) rfl ?_
        refine EJ.drop (.s .z) ?_
        refine EJ.drop (.s (.s (.s (.s .z)))) ?_
        refine EJ.front (.s (.s (.s (.s (.s .z))))) ?_
        refine EJ.front (.s (.s (.s (.s (.s .z))))) ?_
        refine EJ.front (.s (.s (.s (.s (.s .z))))) ?_
        refine EJ.front (.s (.s (.s (.s .z)))) ?_
        refine EJ.front (.s (.s (.s (.s .z)))) ?_
        refine EJ.front (.s (.s (.s (.s (.s .z))))) ?_
        exact hAg0 (qo50, co50, setV vs i (qo48, co48), i + 1) ⟨by show i + 1 ≤ K; omega, upto hI (bnot_f h43)⟩ (by show K - (i + 1) < K - i; omega) 19 rfl rfl ⟨rfl, trivial⟩ rfl (by dsimp only; rw [take_fm (by omega), slicesC_set (List.length_take_of_le (by omega))]; rfl)
    ·
      refine CJ.exit ?_
      refine EJ.thenE ?_
      refine EJ.thenE ?_
      refine EJ.inE ?_
      refine EJ.thenN (hK7 ?_)
      refine CJ.seq fun _ hK16 _ => ?_
      refine CJ.region ?_
      refine J.p (PR.loadAll rfl At.z (by simpa [*] using ag41)) rfl ?_
      refine J.storeAll rfl rfl (by first | exact bytesC_one _ | exact intsC_one _ | exact Term.c_one _ | simp [Value.oneCell']) (by simpa [*] using sz41) (by simp [*]) (.s (.s (.s (.s (.s .z))))) ?_
      refine J.p (PR.assign rfl) rfl ?_
      refine J.nil ?_
      refine EJ.thenN (hK16 ?_)
      refine CJ.ret ?_
      refine EJ.ret2 rfl (Res.agg rfl (.s (.s (.s (.s (.s .z))))) (by simpa [*] using ag41)) (Res.tmp rfl) fun w hH => ?_
      replace hH := hH.sublist (.cons _ (.cons_cons _ (.cons_cons _ (.cons_cons _ (.cons _ (.cons _ (List.Sublist.refl _)))))))
      obtain rfl : i = K := by omega
      obtain ⟨e1, e2, e3⟩ := sb4 hPa hin (fun x hx => hI x hx)
      rw [e1, e2, e3]
      exact ⟨_, _, q, c, vs, by rw [hfl], by unfold ownFs; rw [hfl]; exact (((hH.front (.s .z)).star.front (.s .z)).weaken hle2 hw0 hw1)⟩
end Go.Proofs.Ytpojpokldncglaa.G
namespace Go.Proofs.Ytpojpokldncglaa.G
open Go Go.RowKit
namespace Lq
theorem u41 : Try.prog.underlying 41 = some (TypeDesc.struct #[{ name := "Degrees", type := 22, offset := 0, embedded := false, tag := "", pkgPath := "", byteOffset := 0 }, { name := "Images", type := 39, offset := 1, embedded := false, tag := "", pkgPath := "", byteOffset := 24 }]) := by kernel_rfl
theorem u49 : Try.prog.underlying 49 = some (TypeDesc.struct #[{ name := "Degrees", type := 22, offset := 0, embedded := false, tag := "", pkgPath := "", byteOffset := 0 }, { name := "Images", type := 47, offset := 1, embedded := false, tag := "", pkgPath := "", byteOffset := 24 }]) := by kernel_rfl
theorem sz41 : Size Try.prog 41 2 := by unfold Size; kernel_rfl
theorem ze41 : Zero Try.prog 41 [.slice none 0 0, .slice none 0 0] := by unfold Zero; kernel_rfl
theorem ag41 : Agg Try.prog 41 2 := ⟨_, u41, rfl, by kernel_rfl⟩
theorem ag49 : Agg Try.prog 49 2 := ⟨_, u49, rfl, by kernel_rfl⟩
theorem fn30 : Fn Try.prog 30 := ⟨_, Try.func30, by kernel_rfl, rfl⟩
theorem fn31 : Fn Try.prog 31 := ⟨_, Try.func31, by kernel_rfl, rfl⟩
theorem fn32 : Fn Try.prog 32 := ⟨_, Try.func32, by kernel_rfl, rfl⟩
theorem fn33 : Fn Try.prog 33 := ⟨_, Try.func33, by kernel_rfl, rfl⟩
theorem fn35 : Fn Try.prog 35 := ⟨_, Try.func35, by kernel_rfl, rfl⟩
theorem fn58 : Fn Try.prog 58 := ⟨_, Try.func58, by kernel_rfl, rfl⟩
theorem fn59 : Fn Try.prog 59 := ⟨_, Try.func59, by kernel_rfl, rfl⟩
theorem foll0 : Try.prog.follows .mixedOrders = true := by kernel_rfl
end Lq
open Lq
set_option maxHeartbeats 8000000 in
set_option maxRecDepth 10000 in
theorem lawSubAlgebra_c {B : World} {H0 H : HP} {L : List SA} {w : World} {qad qaf : Option Addr} {cad caf : Nat} {ad : List Int} {af : List (List Term)} {k : Int}  (had : Ints H qad ad) (haf : Forms H qaf af) (hn : ad.length ≤ 9223372036854775807 ∧ af.length ≤ 9223372036854775807) (hl : ∀ i, i < af.length → (fm af i).length ≤ 9223372036854775807) (hH : Hp B H0 H L w) :
    Calls Try.prog 13 [.agg [.slice qad ad.length cad, .slice qaf af.length caf].toArray, .int .i64 k].toArray w fun e w' => e = .returned (.bool true) ∧ Below B.heap.size B w' := by
  refine CJ.enter Try.func13 rfl 101 rfl rfl [(0, .agg [.slice qad ad.length cad, .slice qaf af.length caf].toArray), (1, .int .i64 k)] rfl hH ?_
  clear hH
  obtain ⟨f1, f2, f3⟩ := sb_len ad af k
  refine CJ.seq fun _ hK1 _ => ?_
  refine CJ.region ?_
  refine J.box rfl rfl rfl fun g2 => ?_
  refine J.p (PR.assign rfl) rfl ?_
  refine J.nil ?_
  refine EJ.thenN (hK1 ?_)
  refine CJ.seq fun _ hK2 _ => ?_
  refine CJ.region ?_
  refine J.p (PR.assign rfl) rfl ?_
  refine J.nil ?_
  refine EJ.thenN (hK2 ?_)
  refine CJ.seq fun _ hK3 _ => ?_
  refine CJ.region ?_
  refine J.p (PR.loadAll rfl At.z (by simpa [*] using ag49)) rfl ?_
  refine J.p (PR.move rfl) rfl ?_
  refine J.call fn33 rfl rfl fun w hH => (szAlgebra_c had haf (by omega) hl hH).mono ?_
  rintro _ w ⟨rfl, hH⟩
  refine ⟨_, rfl, fun a hF => J.of hF hH ?_⟩
  refine J.p (PR.assign rfl) rfl ?_
  refine J.nil ?_
  refine EJ.thenN (hK3 ?_)
  refine CJ.seq fun _ hK4 _ => ?_
  refine CJ.seq fun _ hK5 _ => ?_
  refine CJ.region ?_
  refine J.p (PR.move rfl) rfl ?_
  refine J.p (PR.lss rfl rfl) rfl ?_
  refine J.nil ?_
  refine EJ.thenN (hK5 ?_)
  refine CJ.condD rfl (fun h11 => ?_) (fun h11 => ?_)
  ·
    refine CJ.seq fun _ hK6 _ => ?_
    refine CJ.region ?_
    refine J.p (PR.assign rfl) rfl ?_
    refine J.nil ?_
    refine EJ.thenN (hK6 ?_)
    refine CJ.ret ?_
    refine EJ.thenR ?_
    refine EJ.ret1 rfl (Res.tmp rfl) fun w hH => ?_
    replace hH := hH.tail
    first | exact ⟨rfl, hH.below⟩ | exact absurd rfl h11p | exact absurd rfl h11 | (exfalso; omega) | (simp at h11; done)
  ·
    have hsz : ad.length + af.length + tot af ≤ 1048576 := by unfold szv at h11; split at h11 <;> omega
    have hl6 : ∀ i, i < af.length → (fm af i).length ≤ 1048576 := fun i hi => by have := tot_fm hi; omega
    have f4 : ∀ i, i < (sbF ad af k).length → (fm (sbF ad af k) i).length ≤ 9223372036854775807 := fun i hi => by have := tot_fm hi; omega
    refine CJ.skip ?_
    refine EJ.thenN (hK4 ?_)
    refine CJ.seq fun _ hK7 _ => ?_
    refine CJ.region ?_
    refine J.p (PR.loadAll rfl At.z (by simpa [*] using ag49)) rfl ?_
    refine J.call fn35 rfl rfl fun w hH => (toAlgebra_c had haf (by omega) hl6 hH).mono ?_
    rintro _ w ⟨qdo23, cdo23, qfo23, cfo23, vso23, rfl, hH⟩
    refine ⟨_, rfl, fun a hF => J.of hF hH ?_⟩
    refine J.p (PR.move rfl) rfl ?_
    refine J.call fn58 rfl rfl fun w hH => hH.lend .z fun Hl1 hle1 hA1 hB1 hH => hH.lend .z fun Hl2 hle2 hA2 hB2 hH => (sSubAlgebra_c ((own_ints hA1).le hle2) (own_forms haf.wfss hA2) (by omega) (by omega) hl6 (own_le hA1) hH).mono ?_
    rintro _ w ⟨qdo25, cdo25, qfo25, cfo25, vso25, rfl, hH⟩
    replace hH := hB2 _ _ hH
    replace hH := hB1 _ _ hH
    refine ⟨_, rfl, fun a hF => J.of hF hH ?_⟩
    refine J.p (PR.move rfl) rfl ?_
    refine J.p (PR.extract rfl rfl) rfl ?_
    refine J.p (PR.extract rfl rfl) rfl ?_
    refine J.alloc ze41 rfl fun g6 => ?_
    refine J.storeAll rfl rfl (by first | exact bytesC_one _ | exact intsC_one _ | exact Term.c_one _ | simp [Value.oneCell']) (by simpa [*] using sz41) (by simp [*]) At.z ?_
    refine J.p (PR.assign rfl) rfl ?_
    refine J.nil ?_
    refine EJ.thenN (hK7 ?_)
    refine CJ.seq fun _ hK8 _ => ?_
    refine CJ.region ?_
    refine J.p (PR.loadAll rfl (.s (.s (.s (.s (.s .z))))) (by simpa [*] using ag49)) rfl ?_
    refine J.call fn35 rfl rfl fun w hH => (toAlgebra_c had haf (by omega) hl6 hH).mono ?_
    rintro _ w ⟨qdo29, cdo29, qfo29, cfo29, vso29, rfl, hH⟩
    refine ⟨_, rfl, fun a hF => J.of hF hH ?_⟩
    refine J.alloc ze41 rfl fun g8 => ?_
    refine J.storeAll rfl rfl (by first | exact bytesC_one _ | exact intsC_one _ | exact Term.c_one _ | simp [Value.oneCell']) (by simpa [*] using sz41) (by simp [*]) At.z ?_
    refine J.nil ?_
    refine EJ.thenN (hK8 ?_)
    refine CJ.seq fun _ hK9 _ => ?_
    refine CJ.region ?_
    refine J.p (PR.loadAll rfl At.z (by simpa [*] using ag41)) rfl ?_
    refine J.p (PR.move rfl) rfl ?_
    refine J.call fn59 rfl rfl fun w hH => hH.lend (.s .z) fun Hl1 hle1 hA1 hB1 hH => hH.lend (.s .z) fun Hl2 hle2 hA2 hB2 hH => (SubAlgebra_c ((own_ints hA1).le hle2) (own_forms haf.wfss hA2) (by omega) (by omega) hl6 (own_le hA1) (own_le hA2.1) hH).mono ?_
    rintro _ w ⟨qdo33, cdo33, qfo33, cfo33, vso33, rfl, hH⟩
    replace hH := hB2 _ _ hH
    replace hH := hB1 _ _ hH
    refine ⟨_, rfl, fun a hF => J.of hF hH ?_⟩
    refine J.p (PR.move rfl) rfl ?_
    refine J.p (PR.extract rfl rfl) rfl ?_
    refine J.p (PR.extract rfl rfl) rfl ?_
    refine J.alloc ze41 rfl fun g9 => ?_
    refine J.storeAll rfl rfl (by first | exact bytesC_one _ | exact intsC_one _ | exact Term.c_one _ | simp [Value.oneCell']) (by simpa [*] using sz41) (by simp [*]) At.z ?_
    refine J.p (PR.assign rfl) rfl ?_
    refine J.nil ?_
    refine EJ.thenN (hK9 ?_)
    refine CJ.seq fun _ hK10 _ => ?_
    refine CJ.seq fun _ hK11 _ => ?_
    refine CJ.region ?_
    refine J.p (PR.loadAll rfl At.z (by simpa [*] using ag41)) rfl ?_
    refine J.p (PR.loadAll rfl (.s (.s (.s (.s (.s (.s .z)))))) (by simpa [*] using ag41)) rfl ?_
    refine J.call fn30 rfl rfl fun w hH => hH.lend (.s (.s (.s .z))) fun Hl1 hle1 hA1 hB1 hH => hH.lend (.s (.s (.s .z))) fun Hl2 hle2 hA2 hB2 hH => hH.lend (.s (.s (.s (.s (.s (.s (.s .z))))))) fun Hl3 hle3 hA3 hB3 hH => hH.lend (.s (.s (.s (.s (.s (.s (.s .z))))))) fun Hl4 hle4 hA4 hB4 hH => (eqAlgebra_c ((((own_ints hA1).le hle2).le hle3).le hle4) (((own_forms (sbF_wf haf.wfss) hA2).le hle3).le hle4) ((own_ints hA3).le hle4) (own_forms (sbF_wf haf.wfss) hA4) (by omega) (by omega) f4 hH).mono ?_
    rintro _ w ⟨rfl, hH⟩
    replace hH := hB4 _ _ hH
    replace hH := hB3 _ _ hH
    replace hH := hB2 _ _ hH
    replace hH := hB1 _ _ hH
    refine ⟨_, rfl, fun a hF => J.of hF hH ?_⟩
    refine J.p (PR.not rfl) rfl ?_
    refine J.p (PR.move rfl) rfl ?_
    refine J.splitB (jd := 40) rfl (fun hg40 => ?_) (fun hg40 => ?_)
    ·
      try have hg40p := of_decide_eq_true hg40
      refine J.gn rfl rfl rfl hg40 ?_
      refine J.gn rfl rfl rfl hg40 ?_
      refine J.gn rfl rfl rfl hg40 ?_
      refine J.p (PR.pickT rfl hg40 rfl) rfl ?_
      refine J.nil ?_
      refine EJ.thenN (hK11 ?_)
      refine CJ.condT rfl ?_
      refine CJ.seq fun _ hK12 _ => ?_
      refine CJ.region ?_
      refine J.p (PR.assign rfl) rfl ?_
      refine J.nil ?_
      refine EJ.thenN (hK12 ?_)
      refine CJ.ret ?_
      refine EJ.thenR ?_
      refine EJ.ret1 rfl (Res.tmp rfl) fun w hH => ?_
      replace hH := hH.tail
      replace hH := hH.tail
      replace hH := hH.tail
      replace hH := hH.tail
      replace hH := hH.tail
      replace hH := hH.tail
      replace hH := hH.tail
      replace hH := hH.tail
      replace hH := hH.tail
      replace hH := hH.tail
      replace hH := hH.tail
      replace hH := hH.tail
      first | exact ⟨rfl, hH.below⟩ | exact absurd rfl hg40p | exact absurd rfl hg40 | (exfalso; omega) | (simp at hg40; done)
    ·
      try have hg40p := of_decide_eq_false hg40
      refine J.gy (PR.move rfl) rfl rfl rfl hg40 ?_
      refine J.gy (PR.move rfl) rfl rfl rfl hg40 ?_
      refine J.gy (PR.neq rfl rfl) rfl rfl rfl hg40 ?_
      refine J.p (PR.pickF rfl hg40 rfl) rfl ?_
      refine J.nil ?_
      refine EJ.thenN (hK11 ?_)
      refine CJ.condD rfl (fun hc44 => ?_) (fun hc44 => ?_)
      ·
        refine CJ.seq fun _ hK13 _ => ?_
        refine CJ.region ?_
        refine J.p (PR.assign rfl) rfl ?_
        refine J.nil ?_
        refine EJ.thenN (hK13 ?_)
        refine CJ.ret ?_
        refine EJ.thenR ?_
        refine EJ.ret1 rfl (Res.tmp rfl) fun w hH => ?_
        replace hH := hH.tail
        replace hH := hH.tail
        replace hH := hH.tail
        replace hH := hH.tail
        replace hH := hH.tail
        replace hH := hH.tail
        replace hH := hH.tail
        replace hH := hH.tail
        replace hH := hH.tail
        replace hH := hH.tail
        replace hH := hH.tail
        replace hH := hH.tail
        first | exact ⟨rfl, hH.below⟩ | exact absurd rfl hc44p | exact absurd rfl hc44 | (exfalso; omega) | (simp at hc44; done)
      ·
        refine CJ.skip ?_
        refine EJ.thenN (hK10 ?_)
        refine CJ.seq fun _ hK14 _ => ?_
        refine CJ.seq fun _ hK15 _ => ?_
        refine CJ.openR (Rs := [_, _, _, _, _, _, _, _, _, _, _, _]) 5 [[], [], [1], [0, 1, 2], [0, 1, 2, 3]] [[12], [16], [], [2, 10, 11], []] [[], [], [], [], []] rfl rfl (by kernel_rfl) ?_
        apply GJ.st0 1 rfl
        · intro gh; conv => lhs; simp only [slotsZ, zlAt, vs0, resL, at2, eq_self, Nat.reduceEqDiff, reduceIte, Nat.reduceSub, Nat.reduceAdd, List.cons_append, List.nil_append]
          all_goals rfl
        · intro gh X; conv => lhs; simp only [slotsZ, zlAt, vs0, resL, at2, eq_self, Nat.reduceEqDiff, reduceIte, Nat.reduceSub, Nat.reduceAdd, List.cons_append, List.nil_append]
          all_goals rfl
        · intro gh X; conv => lhs; simp only [slotsZ, zlAt, vs0, resL, at2, eq_self, Nat.reduceEqDiff, reduceIte, Nat.reduceSub, Nat.reduceAdd, List.cons_append, List.nil_append]
          all_goals rfl
        ·
          intro gh X K zq zc zq2 zc2 zb zv hK
          refine J.p (PR.loadAll rfl At.z (by simpa [*] using ag41)) rfl ?_
          refine J.nilK ?_
          exact hK zq zc zq2 zc2 zb zv
        ·
          intro gh gh' h
          rfl
        apply GJ.st0 2 rfl
        · intro gh; conv => lhs; simp only [slotsZ, zlAt, vs0, resL, at2, eq_self, Nat.reduceEqDiff, reduceIte, Nat.reduceSub, Nat.reduceAdd, List.cons_append, List.nil_append]
          all_goals rfl
        · intro gh X; conv => lhs; simp only [slotsZ, zlAt, vs0, resL, at2, eq_self, Nat.reduceEqDiff, reduceIte, Nat.reduceSub, Nat.reduceAdd, List.cons_append, List.nil_append]
          all_goals rfl
        · intro gh X; conv => lhs; simp only [slotsZ, zlAt, vs0, resL, at2, eq_self, Nat.reduceEqDiff, reduceIte, Nat.reduceSub, Nat.reduceAdd, List.cons_append, List.nil_append]
          all_goals rfl
        ·
          intro gh X K zq zc zq2 zc2 zb zv hK
          refine J.p (PR.loadAll rfl At.z (by simpa [*] using ag49)) rfl ?_
          refine J.nilK ?_
          exact hK zq zc zq2 zc2 zb zv
        ·
          intro gh gh' h
          rfl
        apply GJ.st2 3 rfl
        · intro gh; conv => lhs; simp only [slotsZ, zlAt, vs0, resL, at2, eq_self, Nat.reduceEqDiff, reduceIte, Nat.reduceSub, Nat.reduceAdd, List.cons_append, List.nil_append]
          all_goals rfl
        · intro gh X; conv => lhs; simp only [slotsZ, zlAt, vs0, resL, at2, eq_self, Nat.reduceEqDiff, reduceIte, Nat.reduceSub, Nat.reduceAdd, List.cons_append, List.nil_append]
          all_goals rfl
        · intro gh X; conv => lhs; simp only [slotsZ, zlAt, vs0, resL, at2, eq_self, Nat.reduceEqDiff, reduceIte, Nat.reduceSub, Nat.reduceAdd, List.cons_append, List.nil_append]
          all_goals rfl
        ·
          intro gh X K zq zc zq2 zc2 zb zv hK
          refine J.call fn35 rfl rfl fun w hH => (toAlgebra_c had haf (by omega) hl6 hH).mono ?_
          rintro _ w ⟨qdo47, cdo47, qfo47, cfo47, vso47, rfl, hH⟩
          refine ⟨_, rfl, fun a hF => J.of hF hH ?_⟩
          refine J.nilK ?_
          exact hK qdo47 cdo47 qfo47 cfo47 zb vso47
        ·
          intro gh gh' h
          refine ⟨?_, ?_, ?_⟩ <;> rfl
        apply GJ.st0 4 rfl
        · intro gh; conv => lhs; simp only [slotsZ, zlAt, vs0, resL, at2, eq_self, Nat.reduceEqDiff, reduceIte, Nat.reduceSub, Nat.reduceAdd, List.cons_append, List.nil_append]
          all_goals rfl
        · intro gh X; conv => lhs; simp only [slotsZ, zlAt, vs0, resL, at2, eq_self, Nat.reduceEqDiff, reduceIte, Nat.reduceSub, Nat.reduceAdd, List.cons_append, List.nil_append]
          all_goals rfl
        · intro gh X; conv => lhs; simp only [slotsZ, zlAt, vs0, resL, at2, eq_self, Nat.reduceEqDiff, reduceIte, Nat.reduceSub, Nat.reduceAdd, List.cons_append, List.nil_append]
          all_goals rfl
        ·
          intro gh X K zq zc zq2 zc2 zb zv hK
          refine J.call fn30 rfl rfl fun w hH => hH.lend (.s (.s .z)) fun Hl1 hle1 hA1 hB1 hH => hH.lend (.s (.s .z)) fun Hl2 hle2 hA2 hB2 hH => hH.lend .z fun Hl3 hle3 hA3 hB3 hH => hH.lend .z fun Hl4 hle4 hA4 hB4 hH => (eqAlgebra_c ((((own_ints hA1).le hle2).le hle3).le hle4) (((own_forms haf.wfss hA2).le hle3).le hle4) ((own_ints hA3).le hle4) (own_forms haf.wfss hA4) (by omega) (by omega) hl hH).mono ?_
          rintro _ w ⟨rfl, hH⟩
          replace hH := hB4 _ _ hH
          replace hH := hB3 _ _ hH
          replace hH := hB2 _ _ hH
          replace hH := hB1 _ _ hH
          refine ⟨_, rfl, fun a hF => J.of hF hH ?_⟩
          refine EJ.front (.s .z) ?_
          refine EJ.front (.s .z) ?_
          refine EJ.front (.s (.s (.s .z))) ?_
          refine EJ.front (.s (.s (.s .z))) ?_
          refine J.nilK ?_
          exact hK zq zc zq2 zc2 zb zv
        ·
          intro gh gh' h
          first | simp only [h 2 rfl] | rfl
        apply GJ.st0 5 rfl
        · intro gh; conv => lhs; simp only [slotsZ, zlAt, vs0, resL, at2, eq_self, Nat.reduceEqDiff, reduceIte, Nat.reduceSub, Nat.reduceAdd, List.cons_append, List.nil_append]
          all_goals rfl
        · intro gh X; conv => lhs; simp only [slotsZ, zlAt, vs0, resL, at2, eq_self, Nat.reduceEqDiff, reduceIte, Nat.reduceSub, Nat.reduceAdd, List.cons_append, List.nil_append]
          all_goals rfl
        · intro gh X; conv => lhs; simp only [slotsZ, zlAt, vs0, resL, at2, eq_self, Nat.reduceEqDiff, reduceIte, Nat.reduceSub, Nat.reduceAdd, List.cons_append, List.nil_append]
          all_goals rfl
        ·
          intro gh X K zq zc zq2 zc2 zb zv hK
          refine J.p (PR.not rfl) rfl ?_
          refine J.nilK ?_
          exact hK zq zc zq2 zc2 zb zv
        ·
          intro gh gh' h
          first | simp only [h 2 rfl] | rfl
        apply GJ.close [0, 1, 2, 3, 4] [0, 1, 2, 3, 4, 5, 6, 7, 8, 9, 10, 11, 12, 13, 14, 15, 16] foll0 rfl rfl rfl (by rfl)
        · intro gh; conv => lhs; simp only [slotsZ, zlAt, vs0, resL, at2, eq_self, Nat.reduceEqDiff, reduceIte, Nat.reduceSub, Nat.reduceAdd, List.cons_append, List.nil_append]
          all_goals rfl
        · intro gh; conv => lhs; simp only [slotsZ, zlAt, vs0, resL, at2, eq_self, Nat.reduceEqDiff, reduceIte, Nat.reduceSub, Nat.reduceAdd, List.cons_append, List.nil_append]
          all_goals rfl
        intro gh
        generalize (gh 2).c = cdo47
        generalize (gh 2).c2 = cfo47
        generalize (gh 2).q = qdo47
        generalize (gh 2).q2 = qfo47
        generalize (gh 2).vs = vso47
        clear gh
        refine EJ.thenN (hK15 ?_)
        refine CJ.cond rfl (fun hc49 => ?_) (fun hc49 => ?_)
        ·
          refine CJ.seq fun _ hK16 _ => ?_
          refine CJ.region ?_
          refine J.p (PR.assign rfl) rfl ?_
          refine J.nil ?_
          refine EJ.thenN (hK16 ?_)
          refine CJ.ret ?_
          refine EJ.thenR ?_
          refine EJ.ret1 rfl (Res.tmp rfl) fun w hH => ?_
          replace hH := hH.tail
          replace hH := hH.tail
          replace hH := hH.tail
          replace hH := hH.tail
          replace hH := hH.tail
          replace hH := hH.tail
          replace hH := hH.tail
          replace hH := hH.tail
          replace hH := hH.tail
          replace hH := hH.tail
          replace hH := hH.tail
          replace hH := hH.tail
          replace hH := hH.tail
          replace hH := hH.tail
          first | exact ⟨rfl, hH.below⟩ | exact absurd rfl hc49p | exact absurd rfl hc49 | (exfalso; omega) | (simp at hc49; done)
        ·
          refine CJ.skip ?_
          refine EJ.thenN (hK14 ?_)
          refine CJ.seq fun _ hK17 _ => ?_
          refine CJ.region ?_
          refine J.p (PR.assign rfl) rfl ?_
          refine J.nil ?_
          refine EJ.thenN (hK17 ?_)
          refine CJ.seq fun _ hK18 _ => ?_
          refine CJ.region ?_
          refine J.p (PR.loadAll rfl (.s (.s (.s (.s (.s (.s (.s (.s (.s .z))))))))) (by simpa [*] using ag41)) rfl ?_
          refine J.p (PR.move rfl) rfl ?_
          refine J.call fn31 rfl rfl fun w hH => (markAlgebra_c (by omega) (by omega) ((hH.front (.s (.s (.s (.s (.s (.s (.s (.s .z))))))))).front (.s (.s (.s (.s (.s (.s (.s (.s .z)))))))))).mono ?_
          rintro _ w ⟨rfl, hH⟩
          refine ⟨_, rfl, fun a hF => J.of hF hH ?_⟩
          refine J.p (PR.assign rfl) rfl ?_
          refine J.nil ?_
          refine EJ.thenN (hK18 ?_)
          refine CJ.seq fun _ hK19 _ => ?_
          refine CJ.seq fun _ hK20 _ => ?_
          refine CJ.region ?_
          refine J.p (PR.move rfl) rfl ?_
          refine J.p (PR.lss rfl rfl) rfl ?_
          refine J.p (PR.move rfl) rfl ?_
          refine J.splitB (jd := 55) rfl (fun hg55 => ?_) (fun hg55 => ?_)
          ·
            try have hg55p := of_decide_eq_true hg55
            refine J.gn rfl rfl rfl hg55 ?_
            refine J.gn rfl rfl rfl hg55 ?_
            refine J.gn rfl rfl rfl hg55 ?_
            refine J.gn rfl rfl rfl hg55 ?_
            refine J.p (PR.pickT rfl hg55 rfl) rfl ?_
            refine J.p (PR.move rfl) rfl ?_
            refine J.gn rfl rfl rfl rfl ?_
            refine J.gn rfl rfl rfl rfl ?_
            refine J.gn rfl rfl rfl rfl ?_
            refine J.p (PR.pickT rfl rfl rfl) rfl ?_
            refine J.nil ?_
            refine EJ.thenN (hK20 ?_)
            refine CJ.condT rfl ?_
            refine CJ.seq fun _ hK21 _ => ?_
            refine CJ.region ?_
            refine J.p (PR.assign rfl) rfl ?_
            refine J.nil ?_
            refine EJ.thenN (hK21 ?_)
            refine CJ.ret ?_
            refine EJ.thenR ?_
            refine EJ.ret1 rfl (Res.tmp rfl) fun w hH => ?_
            replace hH := hH.tail
            replace hH := hH.tail
            replace hH := hH.tail
            replace hH := hH.tail
            replace hH := hH.tail
            replace hH := hH.tail
            replace hH := hH.tail
            replace hH := hH.tail
            replace hH := hH.tail
            replace hH := hH.tail
            replace hH := hH.tail
            replace hH := hH.tail
            replace hH := hH.tail
            replace hH := hH.tail
            first | exact ⟨rfl, hH.below⟩ | exact absurd rfl hg55p | exact absurd rfl hg55 | (exfalso; omega) | (simp at hg55; done)
          ·
            try have hg55p := of_decide_eq_false hg55
            refine J.gy (PR.loadAll rfl (.s (.s (.s (.s (.s (.s (.s (.s .z)))))))) (by simpa [*] using ag41)) rfl rfl rfl hg55 ?_
            refine J.gy (PR.loadAll rfl (.s (.s (.s (.s (.s (.s (.s (.s (.s (.s .z)))))))))) (by simpa [*] using ag41)) rfl rfl rfl hg55 ?_
            refine J.gcall fn30 rfl rfl hg55 rfl rfl fun w hH => hH.lend (.s (.s (.s (.s .z)))) fun Hl1 hle1 hA1 hB1 hH => hH.lend (.s (.s (.s (.s .z)))) fun Hl2 hle2 hA2 hB2 hH => hH.lend (.s (.s (.s (.s .z)))) fun Hl3 hle3 hA3 hB3 hH => hH.lend (.s (.s (.s (.s .z)))) fun Hl4 hle4 hA4 hB4 hH => (eqAlgebra_c ((((own_ints hA1).le hle2).le hle3).le hle4) (((own_forms (sbF_wf haf.wfss) hA2).le hle3).le hle4) ((own_ints hA3).le hle4) (own_forms (sbF_wf haf.wfss) hA4) (by omega) (by omega) f4 hH).mono ?_
            rintro _ w ⟨rfl, hH⟩
            replace hH := hB4 _ _ hH
            replace hH := hB3 _ _ hH
            replace hH := hB2 _ _ hH
            replace hH := hB1 _ _ hH
            refine ⟨_, rfl, fun a hF => J.of hF hH ?_⟩
            refine J.gy (PR.not rfl) rfl rfl rfl hg55 ?_
            refine J.p (PR.pickF rfl hg55 rfl) rfl ?_
            refine J.p (PR.move rfl) rfl ?_
            refine J.splitB (jd := 61) rfl (fun hg61 => ?_) (fun hg61 => ?_)
            ·
              try have hg61p := of_decide_eq_true hg61
              refine J.gn rfl rfl rfl hg61 ?_
              refine J.gn rfl rfl rfl hg61 ?_
              refine J.gn rfl rfl rfl hg61 ?_
              refine J.p (PR.pickT rfl hg61 rfl) rfl ?_
              refine J.nil ?_
              refine EJ.thenN (hK20 ?_)
              refine CJ.condT rfl ?_
              refine CJ.seq fun _ hK22 _ => ?_
              refine CJ.region ?_
              refine J.p (PR.assign rfl) rfl ?_
              refine J.nil ?_
              refine EJ.thenN (hK22 ?_)
              refine CJ.ret ?_
              refine EJ.thenR ?_
              refine EJ.ret1 rfl (Res.tmp rfl) fun w hH => ?_
              replace hH := hH.tail
              replace hH := hH.tail
              replace hH := hH.tail
              replace hH := hH.tail
              replace hH := hH.tail
              replace hH := hH.tail
              replace hH := hH.tail
              replace hH := hH.tail
              replace hH := hH.tail
              replace hH := hH.tail
              replace hH := hH.tail
              replace hH := hH.tail
              replace hH := hH.tail
              replace hH := hH.tail
              first | exact ⟨rfl, hH.below⟩ | exact absurd rfl hg61p | exact absurd rfl hg61 | (exfalso; omega) | (simp at hg61; done)
            ·
              try have hg61p := of_decide_eq_false hg61
              refine J.gy (PR.move rfl) rfl rfl rfl hg61 ?_
              refine J.gy (PR.move rfl) rfl rfl rfl hg61 ?_
              refine J.gy (PR.neq rfl rfl) rfl rfl rfl hg61 ?_
              refine J.p (PR.pickF rfl hg61 rfl) rfl ?_
              refine J.nil ?_
              refine EJ.thenN (hK20 ?_)
              refine CJ.condD rfl (fun hc65 => ?_) (fun hc65 => ?_)
              ·
                refine CJ.seq fun _ hK23 _ => ?_
                refine CJ.region ?_
                refine J.p (PR.assign rfl) rfl ?_
                refine J.nil ?_
                refine EJ.thenN (hK23 ?_)
                refine CJ.ret ?_
                refine EJ.thenR ?_
                refine EJ.ret1 rfl (Res.tmp rfl) fun w hH => ?_
                replace hH := hH.tail
                replace hH := hH.tail
                replace hH := hH.tail
                replace hH := hH.tail
                replace hH := hH.tail
                replace hH := hH.tail
                replace hH := hH.tail
                replace hH := hH.tail
                replace hH := hH.tail
                replace hH := hH.tail
                replace hH := hH.tail
                replace hH := hH.tail
                replace hH := hH.tail
                replace hH := hH.tail
                first | exact ⟨rfl, hH.below⟩ | exact absurd rfl hc65p | exact absurd rfl hc65 | (exfalso; omega) | (simp at hc65; done)
              ·
                refine CJ.skip ?_
                refine EJ.thenN (hK19 ?_)
                refine CJ.seq fun _ hK24 _ => ?_
                refine CJ.region ?_
                refine J.p (PR.assign rfl) rfl ?_
                refine J.nil ?_
                refine EJ.thenN (hK24 ?_)
                refine CJ.seq fun _ hK25 _ => ?_
                refine CJ.region ?_
                refine J.p (PR.loadAll rfl (.s (.s (.s (.s (.s (.s (.s (.s .z)))))))) (by simpa [*] using ag41)) rfl ?_
                refine J.p (PR.move rfl) rfl ?_
                refine J.call fn31 rfl rfl fun w hH => (markAlgebra_c (by omega) (by omega) ((hH.front (.s .z)).front (.s .z))).mono ?_
                rintro _ w ⟨rfl, hH⟩
                refine ⟨_, rfl, fun a hF => J.of hF hH ?_⟩
                refine J.p (PR.assign rfl) rfl ?_
                refine J.nil ?_
                refine EJ.thenN (hK25 ?_)
                refine CJ.seq fun _ hK26 _ => ?_
                refine CJ.region ?_
                refine J.p (PR.assign rfl) rfl ?_
                refine J.nil ?_
                refine EJ.thenN (hK26 ?_)
                refine CJ.seq fun _ hK27 _ => ?_
                refine CJ.region ?_
                refine J.p (PR.loadAll rfl (.s (.s (.s (.s (.s (.s (.s (.s .z)))))))) (by simpa [*] using ag41)) rfl ?_
                refine J.p (PR.move rfl) rfl ?_
                refine J.call fn32 rfl rfl fun w hH => hH.lend .z fun Hl1 hle1 hA1 hB1 hH => hH.lend .z fun Hl2 hle2 hA2 hB2 hH => (heldAlgebra_c ((own_mints hA1).le hle2) (own_mforms (by omega) hA2) (by omega) (by omega) hH).mono ?_
                rintro _ w ⟨rfl, hH⟩
                replace hH := hB2 _ _ hH
                replace hH := hB1 _ _ hH
                refine ⟨_, rfl, fun a hF => J.of hF hH ?_⟩
                refine J.p (PR.assign rfl) rfl ?_
                refine J.nil ?_
                refine EJ.thenN (hK27 ?_)
                refine CJ.seq fun _ hK28 _ => ?_
                refine CJ.seq fun _ hK29 _ => ?_
                refine CJ.region ?_
                refine J.p (PR.move rfl) rfl ?_
                refine J.p (PR.lss rfl rfl) rfl ?_
                refine J.nil ?_
                refine EJ.thenN (hK29 ?_)
                refine CJ.condD rfl (fun hc73 => ?_) (fun hc73 => ?_)
                ·
                  refine CJ.seq fun _ hK30 _ => ?_
                  refine CJ.region ?_
                  refine J.p (PR.assign rfl) rfl ?_
                  refine J.nil ?_
                  refine EJ.thenN (hK30 ?_)
                  refine CJ.ret ?_
                  refine EJ.thenR ?_
                  refine EJ.ret1 rfl (Res.tmp rfl) fun w hH => ?_
                  replace hH := hH.tail
                  replace hH := hH.tail
                  replace hH := hH.tail
                  replace hH := hH.tail
                  replace hH := hH.tail
                  replace hH := hH.tail
                  replace hH := hH.tail
                  replace hH := hH.tail
                  replace hH := hH.tail
                  replace hH := hH.tail
                  replace hH := hH.tail
                  replace hH := hH.tail
                  replace hH := hH.tail
                  replace hH := hH.tail
                  first | exact ⟨rfl, hH.below⟩ | exact absurd rfl hc73p | exact absurd rfl hc73 | (exfalso; omega) | (simp at hc73; done)
                ·
                  refine CJ.skip ?_
                  refine EJ.thenN (hK28 ?_)
                  refine CJ.seq fun _ hK31 _ => ?_
                  refine CJ.seq fun _ hK32 _ => ?_
                  refine CJ.region ?_
                  refine J.p (PR.move rfl) rfl ?_
                  refine J.p (PR.move rfl) rfl ?_
                  refine J.p (PR.neq rfl rfl) rfl ?_
                  refine J.nil ?_
                  refine EJ.thenN (hK32 ?_)
                  refine CJ.condD rfl (fun hc76 => ?_) (fun hc76 => ?_)
                  ·
                    refine CJ.seq fun _ hK33 _ => ?_
                    refine CJ.region ?_
                    refine J.p (PR.assign rfl) rfl ?_
                    refine J.nil ?_
                    refine EJ.thenN (hK33 ?_)
                    refine CJ.ret ?_
                    refine EJ.thenR ?_
                    refine EJ.ret1 rfl (Res.tmp rfl) fun w hH => ?_
                    replace hH := hH.tail
                    replace hH := hH.tail
                    replace hH := hH.tail
                    replace hH := hH.tail
                    replace hH := hH.tail
                    replace hH := hH.tail
                    replace hH := hH.tail
                    replace hH := hH.tail
                    replace hH := hH.tail
                    replace hH := hH.tail
                    replace hH := hH.tail
                    replace hH := hH.tail
                    replace hH := hH.tail
                    replace hH := hH.tail
                    first | exact ⟨rfl, hH.below⟩ | exact absurd rfl hc76p | exact absurd rfl hc76 | (exfalso; omega) | (simp at hc76; done)
                  ·
                    refine CJ.skip ?_
                    refine EJ.thenN (hK31 ?_)
                    refine CJ.seq fun _ hK34 _ => ?_
                    refine CJ.region ?_
                    refine J.p (PR.loadAll rfl (.s (.s (.s (.s (.s (.s (.s (.s (.s (.s (.s (.s (.s .z))))))))))))) (by simpa [*] using ag49)) rfl ?_
                    refine J.call fn35 rfl rfl fun w hH => (toAlgebra_c had haf (by omega) hl6 hH).mono ?_
                    rintro _ w ⟨qdo79, cdo79, qfo79, cfo79, vso79, rfl, hH⟩
                    refine ⟨_, rfl, fun a hF => J.of hF hH ?_⟩
                    refine J.p (PR.move rfl) rfl ?_
                    refine J.call fn59 rfl rfl fun w hH => hH.lend .z fun Hl1 hle1 hA1 hB1 hH => hH.lend .z fun Hl2 hle2 hA2 hB2 hH => (SubAlgebra_c ((own_ints hA1).le hle2) (own_forms haf.wfss hA2) (by omega) (by omega) hl6 (own_le hA1) (own_le hA2.1) hH).mono ?_
                    rintro _ w ⟨qdo81, cdo81, qfo81, cfo81, vso81, rfl, hH⟩
                    replace hH := hB2 _ _ hH
                    replace hH := hB1 _ _ hH
                    refine ⟨_, rfl, fun a hF => J.of hF hH ?_⟩
                    refine J.p (PR.move rfl) rfl ?_
                    refine J.p (PR.extract rfl rfl) rfl ?_
                    refine J.p (PR.extract rfl rfl) rfl ?_
                    refine J.alloc ze41 rfl fun g14 => ?_
                    refine J.storeAll rfl rfl (by first | exact bytesC_one _ | exact intsC_one _ | exact Term.c_one _ | simp [Value.oneCell']) (by simpa [*] using sz41) (by simp [*]) At.z ?_
                    refine J.p (PR.assign rfl) rfl ?_
                    refine J.nil ?_
                    refine EJ.thenN (hK34 ?_)
                    refine CJ.seq fun _ hK35 _ => ?_
                    refine CJ.seq fun _ hK36 _ => ?_
                    refine CJ.region ?_
                    refine J.p (PR.loadAll rfl At.z (by simpa [*] using ag41)) rfl ?_
                    refine J.p (PR.loadAll rfl (.s (.s (.s (.s (.s (.s (.s (.s (.s (.s (.s (.s (.s (.s (.s .z))))))))))))))) (by simpa [*] using ag41)) rfl ?_
                    refine J.call fn30 rfl rfl fun w hH => hH.lend (.s (.s (.s .z))) fun Hl1 hle1 hA1 hB1 hH => hH.lend (.s (.s (.s .z))) fun Hl2 hle2 hA2 hB2 hH => hH.lend (.s (.s (.s (.s (.s .z))))) fun Hl3 hle3 hA3 hB3 hH => hH.lend (.s (.s (.s (.s (.s .z))))) fun Hl4 hle4 hA4 hB4 hH => (eqAlgebra_c ((((own_ints hA1).le hle2).le hle3).le hle4) (((own_forms (sbF_wf haf.wfss) hA2).le hle3).le hle4) ((own_ints hA3).le hle4) (own_forms (sbF_wf haf.wfss) hA4) (by omega) (by omega) f4 hH).mono ?_
                    rintro _ w ⟨rfl, hH⟩
                    replace hH := hB4 _ _ hH
                    replace hH := hB3 _ _ hH
                    replace hH := hB2 _ _ hH
                    replace hH := hB1 _ _ hH
                    refine ⟨_, rfl, fun a hF => J.of hF hH ?_⟩
                    refine J.p (PR.not rfl) rfl ?_
                    refine J.p (PR.move rfl) rfl ?_
                    refine J.splitB (jd := 88) rfl (fun hg88 => ?_) (fun hg88 => ?_)
                    ·
                      try have hg88p := of_decide_eq_true hg88
                      refine J.gn rfl rfl rfl hg88 ?_
                      refine J.gn rfl rfl rfl hg88 ?_
                      refine J.gn rfl rfl rfl hg88 ?_
                      refine J.p (PR.pickT rfl hg88 rfl) rfl ?_
                      refine J.nil ?_
                      refine EJ.thenN (hK36 ?_)
                      refine CJ.condT rfl ?_
                      refine CJ.seq fun _ hK37 _ => ?_
                      refine CJ.region ?_
                      refine J.p (PR.assign rfl) rfl ?_
                      refine J.nil ?_
                      refine EJ.thenN (hK37 ?_)
                      refine CJ.ret ?_
                      refine EJ.thenR ?_
                      refine EJ.ret1 rfl (Res.tmp rfl) fun w hH => ?_
                      replace hH := hH.tail
                      replace hH := hH.tail
                      replace hH := hH.tail
                      replace hH := hH.tail
                      replace hH := hH.tail
                      replace hH := hH.tail
                      replace hH := hH.tail
                      replace hH := hH.tail
                      replace hH := hH.tail
                      replace hH := hH.tail
                      replace hH := hH.tail
                      replace hH := hH.tail
                      replace hH := hH.tail
                      replace hH := hH.tail
                      replace hH := hH.tail
                      replace hH := hH.tail
                      replace hH := hH.tail
                      replace hH := hH.tail
                      replace hH := hH.tail
                      first | exact ⟨rfl, hH.below⟩ | exact absurd rfl hg88p | exact absurd rfl hg88 | (exfalso; omega) | (simp at hg88; done)
                    ·
                      try have hg88p := of_decide_eq_false hg88
                      refine J.gy (PR.move rfl) rfl rfl rfl hg88 ?_
                      refine J.gy (PR.move rfl) rfl rfl rfl hg88 ?_
                      refine J.gy (PR.neq rfl rfl) rfl rfl rfl hg88 ?_
                      refine J.p (PR.pickF rfl hg88 rfl) rfl ?_
                      refine J.nil ?_
                      refine EJ.thenN (hK36 ?_)
                      refine CJ.condD rfl (fun hc92 => ?_) (fun hc92 => ?_)
                      ·
                        refine CJ.seq fun _ hK38 _ => ?_
                        refine CJ.region ?_
                        refine J.p (PR.assign rfl) rfl ?_
                        refine J.nil ?_
                        refine EJ.thenN (hK38 ?_)
                        refine CJ.ret ?_
                        refine EJ.thenR ?_
                        refine EJ.ret1 rfl (Res.tmp rfl) fun w hH => ?_
                        replace hH := hH.tail
                        replace hH := hH.tail
                        replace hH := hH.tail
                        replace hH := hH.tail
                        replace hH := hH.tail
                        replace hH := hH.tail
                        replace hH := hH.tail
                        replace hH := hH.tail
                        replace hH := hH.tail
                        replace hH := hH.tail
                        replace hH := hH.tail
                        replace hH := hH.tail
                        replace hH := hH.tail
                        replace hH := hH.tail
                        replace hH := hH.tail
                        replace hH := hH.tail
                        replace hH := hH.tail
                        replace hH := hH.tail
                        replace hH := hH.tail
                        first | exact ⟨rfl, hH.below⟩ | exact absurd rfl hc92p | exact absurd rfl hc92 | (exfalso; omega) | (simp at hc92; done)
                      ·
                        refine CJ.skip ?_
                        refine EJ.thenN (hK35 ?_)
                        refine CJ.seq fun _ hK39 _ => ?_
                        refine CJ.region ?_
                        refine J.p (PR.assign rfl) rfl ?_
                        refine J.nil ?_
                        refine EJ.thenN (hK39 ?_)
                        refine CJ.seq fun _ hK40 _ => ?_
                        refine CJ.region ?_
                        refine J.p (PR.loadAll rfl (.s (.s (.s (.s (.s (.s (.s (.s (.s (.s (.s (.s (.s .z))))))))))))) (by simpa [*] using ag41)) rfl ?_
                        refine J.p (PR.move rfl) rfl ?_
                        refine J.call fn32 rfl rfl fun w hH => hH.lend (.s (.s (.s (.s (.s (.s (.s .z))))))) fun Hl1 hle1 hA1 hB1 hH => hH.lend (.s (.s (.s (.s (.s (.s (.s .z))))))) fun Hl2 hle2 hA2 hB2 hH => (heldAlgebra_c ((own_mints hA1).le hle2) (own_mforms (by omega) hA2) (by omega) (by omega) hH).mono ?_
                        rintro _ w ⟨rfl, hH⟩
                        replace hH := hB2 _ _ hH
                        replace hH := hB1 _ _ hH
                        refine ⟨_, rfl, fun a hF => J.of hF hH ?_⟩
                        refine J.p (PR.assign rfl) rfl ?_
                        refine J.nil ?_
                        refine EJ.thenN (hK40 ?_)
                        refine CJ.seq fun _ hK41 _ => ?_
                        refine CJ.seq fun _ hK42 _ => ?_
                        refine CJ.region ?_
                        refine J.p (PR.move rfl) rfl ?_
                        refine J.p (PR.lss rfl rfl) rfl ?_
                        refine J.nil ?_
                        refine EJ.thenN (hK42 ?_)
                        refine CJ.condD rfl (fun hc97 => ?_) (fun hc97 => ?_)
                        ·
                          refine CJ.seq fun _ hK43 _ => ?_
                          refine CJ.region ?_
                          refine J.p (PR.assign rfl) rfl ?_
                          refine J.nil ?_
                          refine EJ.thenN (hK43 ?_)
                          refine CJ.ret ?_
                          refine EJ.thenR ?_
                          refine EJ.ret1 rfl (Res.tmp rfl) fun w hH => ?_
                          replace hH := hH.tail
                          replace hH := hH.tail
                          replace hH := hH.tail
                          replace hH := hH.tail
                          replace hH := hH.tail
                          replace hH := hH.tail
                          replace hH := hH.tail
                          replace hH := hH.tail
                          replace hH := hH.tail
                          replace hH := hH.tail
                          replace hH := hH.tail
                          replace hH := hH.tail
                          replace hH := hH.tail
                          replace hH := hH.tail
                          replace hH := hH.tail
                          replace hH := hH.tail
                          replace hH := hH.tail
                          replace hH := hH.tail
                          replace hH := hH.tail
                          first | exact ⟨rfl, hH.below⟩ | exact absurd rfl hc97p | exact absurd rfl hc97 | (exfalso; omega) | (simp at hc97; done)
                        ·
                          refine CJ.skip ?_
                          refine EJ.thenN (hK41 ?_)
                          refine CJ.seq fun _ hK44 _ => ?_
                          refine CJ.seq fun _ hK45 _ => ?_
                          refine CJ.region ?_
                          refine J.p (PR.move rfl) rfl ?_
                          refine J.p (PR.move rfl) rfl ?_
                          refine J.p (PR.neq rfl rfl) rfl ?_
                          refine J.nil ?_
                          refine EJ.thenN (hK45 ?_)
                          refine CJ.condD rfl (fun hc100 => ?_) (fun hc100 => ?_)
                          ·
                            refine CJ.seq fun _ hK46 _ => ?_
                            refine CJ.region ?_
                            refine J.p (PR.assign rfl) rfl ?_
                            refine J.nil ?_
                            refine EJ.thenN (hK46 ?_)
                            refine CJ.ret ?_
                            refine EJ.thenR ?_
                            refine EJ.ret1 rfl (Res.tmp rfl) fun w hH => ?_
                            replace hH := hH.tail
                            replace hH := hH.tail
                            replace hH := hH.tail
                            replace hH := hH.tail
                            replace hH := hH.tail
                            replace hH := hH.tail
                            replace hH := hH.tail
                            replace hH := hH.tail
                            replace hH := hH.tail
                            replace hH := hH.tail
                            replace hH := hH.tail
                            replace hH := hH.tail
                            replace hH := hH.tail
                            replace hH := hH.tail
                            replace hH := hH.tail
                            replace hH := hH.tail
                            replace hH := hH.tail
                            replace hH := hH.tail
                            replace hH := hH.tail
                            first | exact ⟨rfl, hH.below⟩ | exact absurd rfl hc100p | exact absurd rfl hc100 | (exfalso; omega) | (simp at hc100; done)
                          ·
                            refine CJ.skip ?_
                            refine EJ.thenN (hK44 ?_)
                            refine CJ.seq fun _ hK47 _ => ?_
                            refine CJ.region ?_
                            refine J.p (PR.assign rfl) rfl ?_
                            refine J.nil ?_
                            refine EJ.thenN (hK47 ?_)
                            refine CJ.ret ?_
                            refine EJ.ret1 rfl (Res.tmp rfl) fun w hH => ?_
                            replace hH := hH.tail
                            replace hH := hH.tail
                            replace hH := hH.tail
                            replace hH := hH.tail
                            replace hH := hH.tail
                            replace hH := hH.tail
                            replace hH := hH.tail
                            replace hH := hH.tail
                            replace hH := hH.tail
                            replace hH := hH.tail
                            replace hH := hH.tail
                            replace hH := hH.tail
                            replace hH := hH.tail
                            replace hH := hH.tail
                            replace hH := hH.tail
                            replace hH := hH.tail
                            replace hH := hH.tail
                            replace hH := hH.tail
                            replace hH := hH.tail
                            first | exact ⟨rfl, hH.below⟩ | exact absurd rfl hc100p | exact absurd rfl hc100 | (exfalso; omega) | (simp at hc100; done)
end Go.Proofs.Ytpojpokldncglaa.G
namespace Go.Proofs.Ytpojpokldncglaa.fnExactSubAlgebra
open Go.ChangeShapes Go.WideShapes Go.ChangeAt Go.RowKit
open Go.Proofs.Ytpojpokldncglaa.G
theorem u49 : Try.prog.underlying 49 = some (TypeDesc.struct #[{ name := "Degrees", type := 22, offset := 0, embedded := false, tag := "", pkgPath := "", byteOffset := 0 }, { name := "Images", type := 47, offset := 1, embedded := false, tag := "", pkgPath := "", byteOffset := 24 }]) := by kernel_rfl
theorem u22 : Try.prog.underlying 22 = some (TypeDesc.slice 2) := by kernel_rfl
theorem u2 : Try.prog.underlying 2 = some (TypeDesc.int .i64) := by kernel_rfl
theorem u47 : Try.prog.underlying 47 = some (TypeDesc.slice 25) := by kernel_rfl
theorem u25 : Try.prog.underlying 25 = some (TypeDesc.struct #[{ name := "Terms", type := 23, offset := 0, embedded := false, tag := "", pkgPath := "", byteOffset := 0 }]) := by kernel_rfl
theorem u23 : Try.prog.underlying 23 = some (TypeDesc.slice 139) := by kernel_rfl
theorem u139 : Try.prog.underlying 139 = some (TypeDesc.struct #[{ name := "Monomial", type := 85, offset := 0, embedded := false, tag := "", pkgPath := "", byteOffset := 0 }, { name := "Factor", type := 2, offset := 8, embedded := false, tag := "", pkgPath := "", byteOffset := 8 }]) := by kernel_rfl
theorem u85 : Try.prog.underlying 85 = some (TypeDesc.array 8 5) := by kernel_rfl
theorem u5 : Try.prog.underlying 5 = some (TypeDesc.int .u8) := by kernel_rfl
theorem u4 : Try.prog.underlying 4 = some (TypeDesc.bool) := by kernel_rfl
theorem own : ownKnob Try.prog.godebug = none := by kernel_rfl
set_option maxRecDepth 100000 in
theorem lifted (os : Os) (started : os.Started) (H : Type) (enc : TypeId × Value → H) :
    ReturnsInHanded {} Try.checked os 13 .any (Rows.fnExactSubAlgebraSpec.pre6 enc Try.prog Try.f13 Rows.fnExactSubAlgebraRow.domain false) (Rows.fnExactSubAlgebraSpec.post enc Try.prog Try.f13 false true false false) := by
  refine returnsInHanded_of_change_sized (C := Try.checked) own started (by kernel_rfl) Try.func13
    (ChangeSpec.witness6 (enc := enc) (C := Try.checked) false ⟨#[], #[.agg #[.slice none 0 0, .slice none 0 0], .int .i64 0], []⟩ 12 (by kernel_rfl) (by kernel_rfl) (by kernel_rfl) (by kernel_rfl)) ?_
  intro W base args ds gs before hval0 hW hcnd hsz0 _
  have hval : ∀ (j : Nat) t v, Try.f13.params[j]? = some t → args[j]? = some v → Value.okWide Try.prog W .any base t v := hval0
  have hW' := hW
  obtain ⟨p, q, hA0, hV, rfl, hfz, hnd⟩ := hW
  have hA : DataW.TrodAll enc Try.prog W 0 (fun _ => true) true Try.f13.params.toList args.toList ds p := hA0
  rw [Try.params13] at hA hval
  obtain ⟨v0, vs0, d0, ds0, p0, q0, hargs, rfl, rfl, h0, r0⟩ := trodAll_cons hA
  obtain ⟨v1, vs1, d1, ds1, p1, q1, rfl, rfl, rfl, h1, r1⟩ := trodAll_cons r0
  obtain ⟨rfl, rfl, rfl⟩ := trodAll_nil r1
  obtain rfl : args = #[v0, v1] := by cases args; simp_all
  obtain ⟨rfl, rfl⟩ := trodVars_none hV
  obtain ⟨q0d, c0d, ds0, q0f, c0f, fs0, rfl, X0, F0, le0, fl0⟩ := openV_alg u49 rfl rfl rfl rfl (by kernel_rfl) (by kernel_rfl) (by kernel_rfl) u22 u2 (by kernel_rfl) u47 (by kernel_rfl) (fun n l y hy => tr_form u25 rfl rfl (by kernel_rfl) (by kernel_rfl) u23 (by kernel_rfl) u139 rfl rfl rfl rfl u85 u5 (by kernel_rfl) (by kernel_rfl) u2 (by kernel_rfl) hy) (hval 0 49 v0 rfl rfl) h0
  obtain ⟨a1, rfl, lo1, hi1⟩ := openV_int u2 (hval 1 2 v1 rfl rfl) h1
  clear hA0 hval0 hsz0
  refine ((lawSubAlgebra_c X0 F0 le0 fl0 (Hp.start (H := hp W) fun _ _ h => h)).mono fun e W' ⟨he, bel⟩ => ?_)
  subst he
  exact ⟨_, rfl, law_post (f := Try.f13) (by kernel_rfl) (by kernel_rfl) rfl rfl u4 rfl hW' bel⟩
theorem joined : joinedFacts Try.prog 13 Try.f13 Rows.fnExactSubAlgebraSpec Rows.fnExactSubAlgebraRow = true := by
  unfold joinedFacts
  simp only [Bool.and_eq_true]
  repeat' apply And.intro
  all_goals first
    | with_reducible exact Facts.fEnter
    | with_reducible exact Facts.fLaid
    | with_reducible exact Facts.fMaps
    | with_reducible exact Facts.fHeard
    | (rw [Facts.fMake]; rfl)
    | (rw [Facts.fLift]; rfl)
    | (rw [Facts.fKeys]; rfl)
    | (rw [Facts.fStops]; rfl)
    | (rw [Facts.fStopK]; rfl)
    | as_aux_lemma => kernel_rfl
theorem over : Rows.fnExactSubAlgebraRow.holds Try.pinned (OpenSpec.ofChange Rows.fnExactSubAlgebraSpec) :=
  OpenClaim.holds_of_wide 13 Try.f13 rfl rfl rfl rfl rfl rfl rfl ⟨rfl, rfl, rfl, rfl, rfl⟩ rfl rfl rfl rfl rfl (by as_aux_lemma => kernel_rfl) Try.func13 joined
    (of_decide_eq_true (by as_aux_lemma => kernel_rfl)) (by unfold Func.isWrapper; first | (rw [if_pos (by decide +kernel)]; kernel_rfl) | (rw [if_neg (by decide +kernel)]; exact ⟨rfl, rfl⟩))
    (fun os started H enc _ => lifted os started H enc)
theorem proved : Rows.FnExactSubAlgebraSaid := over
#print axioms proved
end Go.Proofs.Ytpojpokldncglaa.fnExactSubAlgebra
namespace Go.Proofs.Ytpojpokldncglaa
theorem fnExactSubAlgebra_holds : Rows.FnExactSubAlgebraSaid := fnExactSubAlgebra.proved
end Go.Proofs.Ytpojpokldncglaa
