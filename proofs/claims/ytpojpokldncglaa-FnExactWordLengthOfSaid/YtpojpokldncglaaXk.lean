/- A monomial times a form, as the reference has it. No condition. -/
import Derived.Test.YtpojpokldncglaaGMap
import Derived.Test.YtpojpokldncglaaProg
import Derived.Test.YtpojpokldncglaaWa
import Derived.Test.YtpojpokldncglaaWb
import Derived.Test.YtpojpokldncglaaWc
import Derived.Test.YtpojpokldncglaaWd
import Derived.Test.YtpojpokldncglaaWe
import Derived.Test.YtpojpokldncglaaWf
import Derived.Test.YtpojpokldncglaaWg
import Derived.Test.YtpojpokldncglaaWh
import Derived.Test.YtpojpokldncglaaWi
import Derived.Test.YtpojpokldncglaaWj
import Derived.Test.YtpojpokldncglaaWk
import Derived.Test.YtpojpokldncglaaWl
import Derived.Test.YtpojpokldncglaaWm
import Derived.Test.YtpojpokldncglaaWn
import Derived.Test.YtpojpokldncglaaWo
import Derived.Test.YtpojpokldncglaaWp
import Derived.Test.YtpojpokldncglaaXa
import Derived.Test.YtpojpokldncglaaXb
import Derived.DeepKeys4
import Derived.Test.YtpojpokldncglaaXc
import Derived.Test.YtpojpokldncglaaXd
import Derived.Test.YtpojpokldncglaaXe
import Derived.Test.YtpojpokldncglaaXf
import Derived.Test.YtpojpokldncglaaXg
import Derived.Test.YtpojpokldncglaaXh
import Derived.Test.YtpojpokldncglaaXi
import Derived.Test.YtpojpokldncglaaXj
set_option linter.unusedVariables false
set_option linter.unusedSimpArgs false
namespace Go.Proofs.Ytpojpokldncglaa.G
open Go Go.RowKit
namespace Xk
theorem u2 : Try.prog.underlying 2 = some (TypeDesc.int .i64) := by kernel_rfl
theorem u27 : Try.prog.underlying 27 = some (TypeDesc.slice 88) := by kernel_rfl
theorem u29 : Try.prog.underlying 29 = some (TypeDesc.struct #[{ name := "Terms", type := 27, offset := 0, embedded := false, tag := "", pkgPath := "", byteOffset := 0 }]) := by kernel_rfl
theorem u86 : Try.prog.underlying 86 = some (TypeDesc.array 8 5) := by kernel_rfl
theorem u88 : Try.prog.underlying 88 = some (TypeDesc.struct #[{ name := "Monomial", type := 86, offset := 0, embedded := false, tag := "", pkgPath := "", byteOffset := 0 }, { name := "Factor", type := 2, offset := 8, embedded := false, tag := "", pkgPath := "", byteOffset := 8 }]) := by kernel_rfl
theorem sz2 : Size Try.prog 2 1 := by unfold Size; kernel_rfl
theorem sz27 : Size Try.prog 27 1 := by unfold Size; kernel_rfl
theorem sz29 : Size Try.prog 29 1 := by unfold Size; kernel_rfl
theorem sz86 : Size Try.prog 86 8 := by unfold Size; kernel_rfl
theorem sz88 : Size Try.prog 88 9 := by unfold Size; kernel_rfl
theorem by88 : Bytes Try.prog 88 16 := by unfold Bytes; kernel_rfl
theorem bz29 : ∀ w, (Instr.build 29 #[]).run Try.prog w = .ok (.agg [.slice none 0 0].toArray) w := fun _ => by kernel_rfl
theorem ze29 : Zero Try.prog 29 [.slice none 0 0] := by unfold Zero; kernel_rfl
theorem ze86 : Zero Try.prog 86 [.int .u8 0, .int .u8 0, .int .u8 0, .int .u8 0, .int .u8 0, .int .u8 0, .int .u8 0, .int .u8 0] := by unfold Zero; kernel_rfl
theorem ze88 : Zero Try.prog 88 [.int .u8 0, .int .u8 0, .int .u8 0, .int .u8 0, .int .u8 0, .int .u8 0, .int .u8 0, .int .u8 0, .int .i64 0] := by unfold Zero; kernel_rfl
theorem pl2 : Plain Try.prog 2 := ⟨_, u2, rfl⟩
theorem pl27 : Plain Try.prog 27 := ⟨_, u27, rfl⟩
theorem ag29 : Agg Try.prog 29 1 := ⟨_, u29, rfl, by kernel_rfl⟩
theorem ag86 : Agg Try.prog 86 8 := ⟨_, u86, rfl, by kernel_rfl⟩
theorem fn151 : Fn Try.prog 151 := ⟨_, Try.func151, by kernel_rfl, rfl⟩
theorem fn184 : Fn Try.prog 184 := ⟨_, Try.func184, by kernel_rfl, rfl⟩
theorem bt88 : ∀ (m : List Int) (f : Int), m.length = 8 → ∀ w, (Instr.build 88 #[(0, .agg (bytesC m).toArray), (1, .int .i64 f)]).run Try.prog w = .ok (.agg ((⟨m, f⟩ : Term).c).toArray) w := fun m f hm w => by
  obtain ⟨a0, a1, a2, a3, a4, a5, a6, a7, rfl⟩ := list8_ex hm
  kernel_rfl
theorem foll0 : Try.prog.follows .mixedOrders = true := by kernel_rfl
end Xk
open Xk

def ofS (s : Sm) : List Term := s.map fun x => ⟨x.1, x.2⟩
theorem toS_ofS (s : Sm) : toS (ofS s) = s := by
  unfold toS ofS
  rw [List.map_map]
  exact List.map_id' s
theorem ofS_toS (ts : List Term) : ofS (toS ts) = ts := by
  unfold toS ofS
  rw [List.map_map]
  exact List.map_id' ts
@[simp] theorem ofS_len (s : Sm) : (ofS s).length = s.length := by simp [ofS]
@[simp] theorem toS_len (ts : List Term) : (toS ts).length = ts.length := by simp [toS]
theorem ofS_app (a b : Sm) : ofS (a ++ b) = ofS a ++ ofS b := by simp [ofS]
theorem ofS_wf {s : Sm} {M : Int} (hM : M ≤ 255) (h : ∀ x ∈ s, Pok M x.1 ∧ -9223372036854775808 ≤ x.2 ∧ x.2 ≤ 9223372036854775807) : Wfs (ofS s) := fun t ht => by
  obtain ⟨x, hx, rfl⟩ := List.mem_map.1 ht
  obtain ⟨h1, h2⟩ := h x hx
  exact ⟨⟨h1.len, (h1.mono hM).bd⟩, h2⟩
theorem Sok.wf {s : Sm} {M : Int} (h : Sok M s) (hM : M ≤ 255) : Wfs (ofS s) := ofS_wf hM fun x hx => ⟨h.key x hx, by have := h.val x hx; omega⟩
/-- in order, with factors of the field -/
structure Gok (M : Int) (s : Sm) : Prop where
  srt : s.Pairwise fun x y => before x.1 y.1 = true
  key : ∀ x ∈ s, Pok M x.1
  val : ∀ x ∈ s, 0 ≤ x.2 ∧ x.2 ≤ 10006
theorem Sok.g {M : Int} {s : Sm} (h : Sok M s) : Gok M s := ⟨h.srt, h.key, fun x hx => by have := h.val x hx; omega⟩
theorem Gok.wf {s : Sm} {M : Int} (h : Gok M s) (hM : M ≤ 255) : Wfs (ofS s) := ofS_wf hM fun x hx => ⟨h.key x hx, by have := h.val x hx; omega⟩
theorem Gok.take {M : Int} {ts : List Term} (h : Gok M (toS ts)) (k : Nat) : Gok M (toS (ts.take k)) := by
  have e : toS (ts.take k) = (toS ts).take k := by simp [toS, List.map_take]
  rw [e]
  exact ⟨h.srt.sublist (List.take_sublist _ _), fun x hx => h.key x (List.mem_of_mem_take hx), fun x hx => h.val x (List.mem_of_mem_take hx)⟩
def KEx (ds : Pw) (s : Sm) : Prop := ∀ x ∈ s, Ex ds x.1
def raw1 (ds : Pw) (x : Pw × Int) (t : Sm) : Sm := t.flatMap fun y => if sgn ds x.1 y.1 = 0 then [] else [(addp x.1 y.1, sgn ds x.1 y.1 * x.2 * y.2)]
def shf (ds : Pw) (x : Pw × Int) (t : Sm) : Sm := (raw1 ds x t).map fun z => (z.1, fld z.2)
theorem mul1_raw (ds : Pw) (x : Pw × Int) (t : Sm) : mul1 ds x t = (raw1 ds x t).map fun z => (z.1, z.2.tmod 10007) := by
  unfold mul1 raw1
  rw [List.map_flatMap]
  congr 1
  funext y
  split <;> rfl
theorem acc_shf (ds : Pw) (x : Pw × Int) (t s : Sm) : acc s (scl (shf ds x t) 1) = acc s (mul1 ds x t) := by
  rw [mul1_raw]
  unfold scl shf
  rw [List.map_map]
  exact acc_congr s fun z _ => ⟨rfl, fun a => by
    show fld (a + (fld z.2 * 1).tmod 10007) = fld (a + z.2.tmod 10007)
    rw [fld_tmod, fld_tmod, Int.mul_one, fld_fld]⟩
theorem raw1_mem {ds : Pw} {x : Pw × Int} {t : Sm} {z : Pw × Int} (h : z ∈ raw1 ds x t) : ∃ y ∈ t, sgn ds x.1 y.1 ≠ 0 ∧ z = (addp x.1 y.1, sgn ds x.1 y.1 * x.2 * y.2) := by
  obtain ⟨y, hy, hz⟩ := List.mem_flatMap.1 h
  split at hz
  · simp at hz
  · rename_i hs
    simp at hz
    exact ⟨y, hy, hs, hz⟩
theorem raw1_len (ds : Pw) (x : Pw × Int) : ∀ t : Sm, (raw1 ds x t).length ≤ t.length
  | [] => by simp [raw1]
  | y :: t => by
    have h := raw1_len ds x t
    unfold raw1 at h ⊢
    rw [List.flatMap_cons, List.length_append, List.length_cons]
    split
    · rw [List.length_nil]; omega
    · rw [List.length_singleton]; omega
theorem shf_len (ds : Pw) (x : Pw × Int) (t : Sm) : (shf ds x t).length ≤ t.length := by unfold shf; rw [List.length_map]; exact raw1_len ds x t
theorem before_addp {p q r : Pw} (hp : p.length = 8) (hq : q.length = 8) (hr : r.length = 8) (h : before q r = true) : before (addp p q) (addp p r) = true := by
  obtain ⟨k, a1, a2, a3⟩ := before_iff.1 h
  refine before_iff.2 ⟨k, a1, fun j hj => ?_, ?_⟩
  · rw [addp_get hp hq, addp_get hp hr, a2 j hj]
  · rw [addp_get hp hq, addp_get hp hr]
    omega
theorem raw1_srt {ds : Pw} {x : Pw × Int} (hx : x.1.length = 8) : ∀ {t : Sm}, (t.Pairwise fun x y => before x.1 y.1 = true) → (∀ y ∈ t, y.1.length = 8) → (raw1 ds x t).Pairwise fun x y => before x.1 y.1 = true
  | [], _, _ => List.Pairwise.nil
  | y :: t, h, hl => by
    obtain ⟨h1, h2⟩ := List.pairwise_cons.1 h
    have ih := raw1_srt (ds := ds) hx h2 fun z hz => hl z (by simp [hz])
    unfold raw1 at ih ⊢
    rw [List.flatMap_cons]
    split
    · exact ih
    · refine List.pairwise_cons.2 ⟨fun z hz => ?_, ih⟩
      obtain ⟨y', hy', _, rfl⟩ := raw1_mem (ds := ds) (x := x) (t := t) hz
      exact before_addp hx (hl y (by simp)) (hl y' (by simp [hy'])) (h1 y' hy')
theorem shf_g {ds : Pw} {x : Pw × Int} {t : Sm} {M N : Int} (hx : Pok M x.1) (ht : Gok N t) : Gok (M + N) (shf ds x t) := by
  refine ⟨?_, fun z hz => ?_, fun z hz => ?_⟩
  · unfold shf
    rw [List.pairwise_map]
    exact raw1_srt hx.len ht.srt fun y hy => (ht.key y hy).len
  · obtain ⟨r, hr, rfl⟩ := List.mem_map.1 hz
    obtain ⟨y, hy, _, rfl⟩ := raw1_mem hr
    exact hx.add (ht.key y hy)
  · obtain ⟨r, hr, rfl⟩ := List.mem_map.1 hz
    exact fld_bd _
theorem Ex.add {ds p q : Pw} {M N : Int} (hp : Pok M p) (hq : Pok N q) (h1 : Ex ds p) (h2 : Ex ds q) (hs : sgn ds p q ≠ 0) : Ex ds (addp p q) := by
  refine ⟨fun i hi => ?_, fun i hi ho => ?_⟩
  · rw [addp_get hp.len hq.len, h1.out i hi, h2.out i hi]
    rfl
  · rw [addp_get hp.len hq.len]
    have a := h1.odd i hi ho
    have b := h2.odd i hi ho
    have c := hp.bd i
    have d := hq.bd i
    rcases Int.lt_or_le (p.getD i 0 + q.getD i 0) 2 with h | h
    · omega
    · exact absurd (sgn_hit hi (hit_yes (ds := ds) (p := p) (q := q) (k := i) ho (by omega) (by omega))).1 hs
theorem mul1_kex {ds : Pw} {x : Pw × Int} {t : Sm} {M N : Int} (hx : Pok M x.1) (ht : Gok N t) (h1 : Ex ds x.1) (h2 : KEx ds t) : KEx ds (mul1 ds x t) := fun z hz => by
  obtain ⟨y, hy, hs, e⟩ := mul1_mem hz
  rw [e]
  exact h1.add hx (ht.key y hy) (h2 y hy) hs
theorem acc_mem {l : Sm} : ∀ {s : Sm} {z : Pw × Int}, z ∈ acc s l → z ∈ s ∨ ∃ x ∈ l, z.1 = x.1 := by
  induction l with
  | nil => intro s z h; exact .inl h
  | cons x l ih =>
    intro s z h
    rw [acc_cons] at h
    rcases ih h with h | ⟨y, hy, e⟩
    · rcases addS_mem h with h | h
      · exact .inr ⟨x, by simp, h⟩
      · exact .inl h
    · exact .inr ⟨y, by simp [hy], e⟩
theorem acc_kex {ds : Pw} {s l : Sm} (h1 : KEx ds s) (h2 : KEx ds l) : KEx ds (acc s l) := fun z hz => by
  rcases acc_mem hz with h | ⟨x, hx, e⟩
  · exact h1 z h
  · rw [e]; exact h2 x hx
theorem shf_take {ds : Pw} {x : Pw × Int} {ts : List Term} {k : Nat} (hk : k < ts.length) : shf ds x (toS (ts.take (k + 1))) = shf ds x (toS (ts.take k)) ++ (if sgn ds x.1 (tm ts k).mono = 0 then [] else [(addp x.1 (tm ts k).mono, fld (sgn ds x.1 (tm ts k).mono * x.2 * (tm ts k).fac))]) := by
  rw [toS_take hk]
  unfold shf raw1
  rw [List.flatMap_append, List.map_append]
  congr 1
  simp only [List.flatMap_cons, List.flatMap_nil, List.append_nil]
  split <;> rfl
theorem prodP_mono {M N : Int} {ds p q : Pw} (hp : Pok M p) (hq : Pok N q) (h : M + N ≤ 255) : Mono (prodP ds p q) := by
  have := (prodP_pok (ds := ds) hp hq).mono h
  exact ⟨this.len, this.bd⟩
theorem shf_no {ds : Pw} {x : Pw × Int} {ts : List Term} {k : Nat} (hk : k < ts.length) (h : sgn ds x.1 (tm ts k).mono = 0) : shf ds x (toS (ts.take k)) = shf ds x (toS (ts.take (k + 1))) := by
  rw [shf_take hk, if_pos h, List.append_nil]
theorem shf_yes {ds : Pw} {x : Pw × Int} {ts : List Term} {k : Nat} (hk : k < ts.length) (h : sgn ds x.1 (tm ts k).mono ≠ 0) : ofS (shf ds x (toS (ts.take k))) ++ [⟨prodP ds x.1 (tm ts k).mono, fld (sgn ds x.1 (tm ts k).mono * x.2 * (tm ts k).fac)⟩] = ofS (shf ds x (toS (ts.take (k + 1)))) := by
  rw [shf_take hk, if_neg h, ofS_app, prodP_of h]
  rfl
theorem toS_at {ts : List Term} {k : Nat} (hk : k < ts.length) : ((tm ts k).mono, (tm ts k).fac) ∈ toS ts := by
  refine List.mem_map.2 ⟨tm ts k, ?_, rfl⟩
  have : tm ts k = ts[k] := by simp [tm, List.getD_eq_getElem?_getD, List.getElem?_eq_getElem hk]
  rw [this]
  exact List.getElem_mem hk

set_option maxHeartbeats 8000000 in
set_option maxRecDepth 10000 in
theorem l01Shift_c {B : World} {H0 H : HP} {L : List SA} {w : World} {qds : Option Addr} {cds : Nat} {ds : List Int} {t : Term} {qg : Option Addr} {cg : Nat} {g : List Term} {M N : Int} (hds : Ints H qds ds) (ht : t.wf) (hg : Terms H qg g) (hn : ds.length ≤ 8) (hd : ∀ j, 0 ≤ ds.getD j 0 ∧ ds.getD j 0 ≤ 12) (h1 : Ex ds t.mono) (h2 : KEx ds (toS g)) (hp : Pok M t.mono) (hq : Gok N (toS g)) (hM : M + N ≤ 255) (hf : 0 ≤ t.fac ∧ t.fac ≤ 10006) (hl : g.length ≤ 1000000000) (hH : Hp B H0 H L w) :
    Calls Try.prog 176 [.slice qds ds.length cds, .agg t.c.toArray, .agg [.slice qg g.length cg].toArray].toArray w fun e w' => ∃ q c, e = .returned (.agg [.slice q (ofS (shf ds (t.mono, t.fac) (toS g))).length c].toArray) ∧ Hp B H0 H (own 88 9 q (ofS (shf ds (t.mono, t.fac) (toS g))).length c (tsC (ofS (shf ds (t.mono, t.fac) (toS g)))) :: L) w' := by
  refine CJ.enter Try.func176 rfl 54 rfl rfl [(0, .slice qds ds.length cds), (1, .agg t.c.toArray), (2, .agg [.slice qg g.length cg].toArray)] rfl hH ?_
  clear hH
  refine CJ.seq fun _ hK1 _ => ?_
  refine CJ.region ?_
  refine J.box rfl rfl rfl fun g4 => ?_
  refine J.box rfl rfl rfl fun g5 => ?_
  refine J.alloc ze29 rfl fun g6 => ?_
  refine J.nil ?_
  refine EJ.thenN (hK1 ?_)
  refine CJ.seq fun _ hK2 _ => ?_
  refine CJ.region ?_
  refine J.own0 88 9 ?_
  refine J.p (PR.buildZ bz29) rfl ?_
  refine J.alloc ze29 rfl fun g7 => ?_
  refine J.storeAll rfl rfl (by first | exact bytesC_one _ | exact intsC_one _ | exact Term.c_one _ | simp [Value.oneCell']) (by simpa [*] using sz29) (by simp [*]) At.z ?_
  refine J.nil ?_
  refine EJ.thenN (hK2 ?_)
  refine CJ.seq fun _ hK3 _ => ?_
  refine CJ.seq fun _ hK4 _ => ?_
  refine CJ.region ?_
  refine J.p (PR.assign rfl) rfl ?_
  refine J.nil ?_
  refine EJ.thenN (hK4 ?_)
  refine CJ.block ?_
  refine CJ.loopU (σ := Option Addr × Nat × Nat) (fun ⟨q, c, k⟩ => [(8, .int .i64 (k : Int))]) (fun ⟨q, c, k⟩ => H) (fun ⟨q, c, k⟩ => obj g7 (.cells [.slice q (ofS (shf ds (t.mono, t.fac) (toS (g.take k)))).length c].toArray 29 (0, 0)) :: own 88 9 q (ofS (shf ds (t.mono, t.fac) (toS (g.take k)))).length c (tsC (ofS (shf ds (t.mono, t.fac) (toS (g.take k))))) :: obj g6 (.cells [.slice none 0 0].toArray 29 (0, 0)) :: obj g5 (.cells [.slice qg g.length cg].toArray 29 (0, 0)) :: obj g4 (.cells t.c.toArray 88 (0, 0)) :: L) (fun ⟨q, c, k⟩ => k ≤ g.length) (fun ⟨q, c, k⟩ => g.length - k) (none, 0, 0) (by show 0 ≤ g.length; omega) ⟨rfl, trivial⟩ rfl rfl ?_
  rintro ⟨q, c, k⟩ hI _ hAg0
  have hk := hI
  have oL : (ofS (shf ds (t.mono, t.fac) (toS (g.take k)))).length ≤ g.length := by rw [ofS_len]; exact Nat.le_trans (shf_len _ _ _) (by rw [toS_len]; exact Nat.le_trans (List.length_take_le _ _) hk)
  have wfO : Wfs (ofS (shf ds (t.mono, t.fac) (toS (g.take k)))) := ((shf_g (ds := ds) (x := (t.mono, t.fac)) hp (hq.take k)).wf hM)
  refine CJ.seq fun _ hK5 _ => ?_
  refine CJ.seq fun _ hK6 _ => ?_
  refine CJ.region ?_
  refine J.p (PR.move rfl) rfl ?_
  refine J.p (PR.fldA u29 rfl sz27 rfl) rfl ?_
  refine J.p (PR.load rfl (.s (.s (.s .z))) rfl pl27) rfl ?_
  refine J.p (PR.lenSlice u27 rfl rfl) rfl ?_
  refine J.p (PR.lss rfl rfl) rfl ?_
  refine J.nil ?_
  refine EJ.thenN (hK6 ?_)
  refine CJ.condD rfl (fun h16 => ?_) (fun h16 => ?_)
  ·
    have hy := toS_at (ts := g) (k := k) (by omega)
    have hyp := hq.key _ hy
    have hyv := hq.val _ hy
    have hye := h2 _ hy
    have mP := prodP_mono (ds := ds) hp hyp hM
    have mPl := mP.len
    have sbb : ∀ i, t.mono.getD i 0 + (tm g k).mono.getD i 0 ≤ 255 := fun i => by have a := (hp.bd i).2; have b := (hyp.bd i).2; simp only at b; omega
    have sg : -1 ≤ sgn ds t.mono (tm g k).mono ∧ sgn ds t.mono (tm g k).mono ≤ 1 := by rcases sgn_cases ds t.mono (tm g k).mono with h | h | h <;> omega
    have s1 := mul_sb (b := t.fac) (B := 10006) sg hf
    have s2 := mul_sb (b := (tm g k).fac) (B := 10006) s1 hyv
    have fb := fld_bd (sgn ds t.mono (tm g k).mono * t.fac * (tm g k).fac)
    refine CJ.skip ?_
    refine EJ.thenN (hK5 ?_)
    refine CJ.seq fun _ hK7 _ => ?_
    refine CJ.block ?_
    refine CJ.seq fun _ hK8 _ => ?_
    refine CJ.openR (Rs := [_, _, _, _, _]) 16 [[], [], [1], [], [3], [], [3, 4, 5], [3, 4, 5, 6], [3, 4, 5, 6, 7], [0, 1, 2, 3, 4, 5, 6, 7, 8], [0, 1, 2, 3, 4, 5, 6, 7, 8, 9], [0, 1, 2, 3, 4, 5, 6, 7, 8, 9, 10], [0, 1, 2, 3, 4, 5, 6, 7, 8, 9, 10], [], [0, 1, 2, 3, 4, 5, 6, 7, 8, 9, 10, 11, 13], [0, 1, 2, 3, 4, 5, 6, 7, 8, 9, 10, 11, 12, 13, 14]] [[], [], [20], [], [19], [], [], [], [], [], [], [], [], [], [], []] [[], [], [], [], [], [], [], [], [], [], [], [], [], [], [13], []] rfl rfl (by kernel_rfl) ?_
    apply GJ.st0 1 rfl
    · intro gh; conv => lhs; simp only [slotsZ, zlAt, vs0, resL, at2, eq_self, Nat.reduceEqDiff, reduceIte, Nat.reduceSub, Nat.reduceAdd, List.cons_append, List.nil_append]
      all_goals rfl
    · intro gh X; conv => lhs; simp only [slotsZ, zlAt, vs0, resL, at2, eq_self, Nat.reduceEqDiff, reduceIte, Nat.reduceSub, Nat.reduceAdd, List.cons_append, List.nil_append]
      all_goals rfl
    · intro gh X; conv => lhs; simp only [slotsZ, zlAt, vs0, resL, at2, eq_self, Nat.reduceEqDiff, reduceIte, Nat.reduceSub, Nat.reduceAdd, List.cons_append, List.nil_append]
      all_goals rfl
    ·
      intro gh X K zq zc zq2 zc2 zb zv hK
      refine J.p (PR.move rfl) rfl ?_
      refine J.nilK ?_
      exact hK zq zc zq2 zc2 zb zv
    ·
      intro gh gh' h
      rfl
    apply GJ.st0 2 rfl
    · intro gh; conv => lhs; simp only [slotsZ, zlAt, vs0, resL, at2, eq_self, Nat.reduceEqDiff, reduceIte, Nat.reduceSub, Nat.reduceAdd, List.cons_append, List.nil_append]
      all_goals rfl
    · intro gh X; conv => lhs; simp only [slotsZ, zlAt, vs0, resL, at2, eq_self, Nat.reduceEqDiff, reduceIte, Nat.reduceSub, Nat.reduceAdd, List.cons_append, List.nil_append]
      all_goals rfl
    · intro gh X; conv => lhs; simp only [slotsZ, zlAt, vs0, resL, at2, eq_self, Nat.reduceEqDiff, reduceIte, Nat.reduceSub, Nat.reduceAdd, List.cons_append, List.nil_append]
      all_goals rfl
    ·
      intro gh X K zq zc zq2 zc2 zb zv hK
      refine J.p (PR.fldA u88 rfl sz86 rfl) rfl ?_
      refine J.nilK ?_
      exact hK zq zc zq2 zc2 zb zv
    ·
      intro gh gh' h
      rfl
    apply GJ.st0 3 rfl
    · intro gh; conv => lhs; simp only [slotsZ, zlAt, vs0, resL, at2, eq_self, Nat.reduceEqDiff, reduceIte, Nat.reduceSub, Nat.reduceAdd, List.cons_append, List.nil_append]
      all_goals rfl
    · intro gh X; conv => lhs; simp only [slotsZ, zlAt, vs0, resL, at2, eq_self, Nat.reduceEqDiff, reduceIte, Nat.reduceSub, Nat.reduceAdd, List.cons_append, List.nil_append]
      all_goals rfl
    · intro gh X; conv => lhs; simp only [slotsZ, zlAt, vs0, resL, at2, eq_self, Nat.reduceEqDiff, reduceIte, Nat.reduceSub, Nat.reduceAdd, List.cons_append, List.nil_append]
      all_goals rfl
    ·
      intro gh X K zq zc zq2 zc2 zb zv hK
      refine J.p (PR.ldMono rfl At.z ht ag86) rfl ?_
      refine J.nilK ?_
      exact hK zq zc zq2 zc2 zb zv
    ·
      intro gh gh' h
      rfl
    apply GJ.st0 4 rfl
    · intro gh; conv => lhs; simp only [slotsZ, zlAt, vs0, resL, at2, eq_self, Nat.reduceEqDiff, reduceIte, Nat.reduceSub, Nat.reduceAdd, List.cons_append, List.nil_append]
      all_goals rfl
    · intro gh X; conv => lhs; simp only [slotsZ, zlAt, vs0, resL, at2, eq_self, Nat.reduceEqDiff, reduceIte, Nat.reduceSub, Nat.reduceAdd, List.cons_append, List.nil_append]
      all_goals rfl
    · intro gh X; conv => lhs; simp only [slotsZ, zlAt, vs0, resL, at2, eq_self, Nat.reduceEqDiff, reduceIte, Nat.reduceSub, Nat.reduceAdd, List.cons_append, List.nil_append]
      all_goals rfl
    ·
      intro gh X K zq zc zq2 zc2 zb zv hK
      refine J.p (PR.fldA u29 rfl sz27 rfl) rfl ?_
      refine J.nilK ?_
      exact hK zq zc zq2 zc2 zb zv
    ·
      intro gh gh' h
      rfl
    apply GJ.st0 5 rfl
    · intro gh; conv => lhs; simp only [slotsZ, zlAt, vs0, resL, at2, eq_self, Nat.reduceEqDiff, reduceIte, Nat.reduceSub, Nat.reduceAdd, List.cons_append, List.nil_append]
      all_goals rfl
    · intro gh X; conv => lhs; simp only [slotsZ, zlAt, vs0, resL, at2, eq_self, Nat.reduceEqDiff, reduceIte, Nat.reduceSub, Nat.reduceAdd, List.cons_append, List.nil_append]
      all_goals rfl
    · intro gh X; conv => lhs; simp only [slotsZ, zlAt, vs0, resL, at2, eq_self, Nat.reduceEqDiff, reduceIte, Nat.reduceSub, Nat.reduceAdd, List.cons_append, List.nil_append]
      all_goals rfl
    ·
      intro gh X K zq zc zq2 zc2 zb zv hK
      refine J.p (PR.load rfl At.z rfl pl27) rfl ?_
      refine J.nilK ?_
      exact hK zq zc zq2 zc2 zb zv
    ·
      intro gh gh' h
      rfl
    apply GJ.st0 6 rfl
    · intro gh; conv => lhs; simp only [slotsZ, zlAt, vs0, resL, at2, eq_self, Nat.reduceEqDiff, reduceIte, Nat.reduceSub, Nat.reduceAdd, List.cons_append, List.nil_append]
      all_goals rfl
    · intro gh X; conv => lhs; simp only [slotsZ, zlAt, vs0, resL, at2, eq_self, Nat.reduceEqDiff, reduceIte, Nat.reduceSub, Nat.reduceAdd, List.cons_append, List.nil_append]
      all_goals rfl
    · intro gh X; conv => lhs; simp only [slotsZ, zlAt, vs0, resL, at2, eq_self, Nat.reduceEqDiff, reduceIte, Nat.reduceSub, Nat.reduceAdd, List.cons_append, List.nil_append]
      all_goals rfl
    ·
      intro gh X K zq zc zq2 zc2 zb zv hK
      refine J.p (PR.move rfl) rfl ?_
      refine J.nilK ?_
      exact hK zq zc zq2 zc2 zb zv
    ·
      intro gh gh' h
      rfl
    apply GJ.st0 7 rfl
    · intro gh; conv => lhs; simp only [slotsZ, zlAt, vs0, resL, at2, eq_self, Nat.reduceEqDiff, reduceIte, Nat.reduceSub, Nat.reduceAdd, List.cons_append, List.nil_append]
      all_goals rfl
    · intro gh X; conv => lhs; simp only [slotsZ, zlAt, vs0, resL, at2, eq_self, Nat.reduceEqDiff, reduceIte, Nat.reduceSub, Nat.reduceAdd, List.cons_append, List.nil_append]
      all_goals rfl
    · intro gh X; conv => lhs; simp only [slotsZ, zlAt, vs0, resL, at2, eq_self, Nat.reduceEqDiff, reduceIte, Nat.reduceSub, Nat.reduceAdd, List.cons_append, List.nil_append]
      all_goals rfl
    ·
      intro gh X K zq zc zq2 zc2 zb zv hK
      refine J.p (PR.idx u27 sz88 rfl rfl rfl (by omega) hg.sm) rfl ?_
      refine J.nilK ?_
      exact hK zq zc zq2 zc2 zb zv
    ·
      intro gh gh' h
      rfl
    apply GJ.st0 8 rfl
    · intro gh; conv => lhs; simp only [slotsZ, zlAt, vs0, resL, at2, eq_self, Nat.reduceEqDiff, reduceIte, Nat.reduceSub, Nat.reduceAdd, List.cons_append, List.nil_append]
      all_goals rfl
    · intro gh X; conv => lhs; simp only [slotsZ, zlAt, vs0, resL, at2, eq_self, Nat.reduceEqDiff, reduceIte, Nat.reduceSub, Nat.reduceAdd, List.cons_append, List.nil_append]
      all_goals rfl
    · intro gh X; conv => lhs; simp only [slotsZ, zlAt, vs0, resL, at2, eq_self, Nat.reduceEqDiff, reduceIte, Nat.reduceSub, Nat.reduceAdd, List.cons_append, List.nil_append]
      all_goals rfl
    ·
      intro gh X K zq zc zq2 zc2 zb zv hK
      refine J.p (PR.fldP u88 rfl sz86 rfl (hg.sm (i := k) (by omega))) rfl ?_
      refine J.nilK ?_
      exact hK zq zc zq2 zc2 zb zv
    ·
      intro gh gh' h
      rfl
    apply GJ.st0 9 rfl
    · intro gh; conv => lhs; simp only [slotsZ, zlAt, vs0, resL, at2, eq_self, Nat.reduceEqDiff, reduceIte, Nat.reduceSub, Nat.reduceAdd, List.cons_append, List.nil_append]
      all_goals rfl
    · intro gh X; conv => lhs; simp only [slotsZ, zlAt, vs0, resL, at2, eq_self, Nat.reduceEqDiff, reduceIte, Nat.reduceSub, Nat.reduceAdd, List.cons_append, List.nil_append]
      all_goals rfl
    · intro gh X; conv => lhs; simp only [slotsZ, zlAt, vs0, resL, at2, eq_self, Nat.reduceEqDiff, reduceIte, Nat.reduceSub, Nat.reduceAdd, List.cons_append, List.nil_append]
      all_goals rfl
    ·
      intro gh X K zq zc zq2 zc2 zb zv hK
      refine J.p (PR.loadHagg rfl (hg.mono (by omega)) (hg.sm (i := k) (by omega)) (by rw [bytesC_length, (hg.wf _ (by omega)).mono.len]; exact ag86)) rfl ?_
      refine J.nilK ?_
      exact hK zq zc zq2 zc2 zb zv
    ·
      intro gh gh' h
      rfl
    apply GJ.st0 10 rfl
    · intro gh; conv => lhs; simp only [slotsZ, zlAt, vs0, resL, at2, eq_self, Nat.reduceEqDiff, reduceIte, Nat.reduceSub, Nat.reduceAdd, List.cons_append, List.nil_append]
      all_goals rfl
    · intro gh X; conv => lhs; simp only [slotsZ, zlAt, vs0, resL, at2, eq_self, Nat.reduceEqDiff, reduceIte, Nat.reduceSub, Nat.reduceAdd, List.cons_append, List.nil_append]
      all_goals rfl
    · intro gh X; conv => lhs; simp only [slotsZ, zlAt, vs0, resL, at2, eq_self, Nat.reduceEqDiff, reduceIte, Nat.reduceSub, Nat.reduceAdd, List.cons_append, List.nil_append]
      all_goals rfl
    ·
      intro gh X K zq zc zq2 zc2 zb zv hK
      refine J.call fn184 rfl rfl fun w hH => (l01Joined_c hds ht.mono (hg.wf k (by omega)).mono hn hd h1 hye sbb hH).mono ?_
      rintro _ w ⟨rfl, hH⟩
      refine ⟨_, rfl, fun a hF => J.of hF hH ?_⟩
      refine J.nilK ?_
      exact hK zq zc zq2 zc2 zb zv
    ·
      intro gh gh' h
      rfl
    apply GJ.st0 11 rfl
    · intro gh; conv => lhs; simp only [slotsZ, zlAt, vs0, resL, at2, eq_self, Nat.reduceEqDiff, reduceIte, Nat.reduceSub, Nat.reduceAdd, List.cons_append, List.nil_append]
      all_goals rfl
    · intro gh X; conv => lhs; simp only [slotsZ, zlAt, vs0, resL, at2, eq_self, Nat.reduceEqDiff, reduceIte, Nat.reduceSub, Nat.reduceAdd, List.cons_append, List.nil_append]
      all_goals rfl
    · intro gh X; conv => lhs; simp only [slotsZ, zlAt, vs0, resL, at2, eq_self, Nat.reduceEqDiff, reduceIte, Nat.reduceSub, Nat.reduceAdd, List.cons_append, List.nil_append]
      all_goals rfl
    ·
      intro gh X K zq zc zq2 zc2 zb zv hK
      refine J.p (PR.move rfl) rfl ?_
      refine J.nilK ?_
      exact hK zq zc zq2 zc2 zb zv
    ·
      intro gh gh' h
      rfl
    apply GJ.st0 12 rfl
    · intro gh; conv => lhs; simp only [slotsZ, zlAt, vs0, resL, at2, eq_self, Nat.reduceEqDiff, reduceIte, Nat.reduceSub, Nat.reduceAdd, List.cons_append, List.nil_append]
      all_goals rfl
    · intro gh X; conv => lhs; simp only [slotsZ, zlAt, vs0, resL, at2, eq_self, Nat.reduceEqDiff, reduceIte, Nat.reduceSub, Nat.reduceAdd, List.cons_append, List.nil_append]
      all_goals rfl
    · intro gh X; conv => lhs; simp only [slotsZ, zlAt, vs0, resL, at2, eq_self, Nat.reduceEqDiff, reduceIte, Nat.reduceSub, Nat.reduceAdd, List.cons_append, List.nil_append]
      all_goals rfl
    ·
      intro gh X K zq zc zq2 zc2 zb zv hK
      refine J.p (PR.extract rfl rfl) rfl ?_
      refine J.nilK ?_
      exact hK zq zc zq2 zc2 zb zv
    ·
      intro gh gh' h
      rfl
    apply GJ.st0 13 rfl
    · intro gh; conv => lhs; simp only [slotsZ, zlAt, vs0, resL, at2, eq_self, Nat.reduceEqDiff, reduceIte, Nat.reduceSub, Nat.reduceAdd, List.cons_append, List.nil_append]
      all_goals rfl
    · intro gh X; conv => lhs; simp only [slotsZ, zlAt, vs0, resL, at2, eq_self, Nat.reduceEqDiff, reduceIte, Nat.reduceSub, Nat.reduceAdd, List.cons_append, List.nil_append]
      all_goals rfl
    · intro gh X; conv => lhs; simp only [slotsZ, zlAt, vs0, resL, at2, eq_self, Nat.reduceEqDiff, reduceIte, Nat.reduceSub, Nat.reduceAdd, List.cons_append, List.nil_append]
      all_goals rfl
    ·
      intro gh X K zq zc zq2 zc2 zb zv hK
      refine J.p (PR.extract rfl rfl) rfl ?_
      refine J.nilK ?_
      exact hK zq zc zq2 zc2 zb zv
    ·
      intro gh gh' h
      rfl
    apply GJ.st1 14 rfl
    · intro gh; conv => lhs; simp only [slotsZ, zlAt, vs0, resL, at2, eq_self, Nat.reduceEqDiff, reduceIte, Nat.reduceSub, Nat.reduceAdd, List.cons_append, List.nil_append]
      all_goals rfl
    · intro gh X; conv => lhs; simp only [slotsZ, zlAt, vs0, resL, at2, eq_self, Nat.reduceEqDiff, reduceIte, Nat.reduceSub, Nat.reduceAdd, List.cons_append, List.nil_append]
      all_goals rfl
    · intro gh X; conv => lhs; simp only [slotsZ, zlAt, vs0, resL, at2, eq_self, Nat.reduceEqDiff, reduceIte, Nat.reduceSub, Nat.reduceAdd, List.cons_append, List.nil_append]
      all_goals rfl
    ·
      intro gh X K zq zc zq2 zc2 zb zv hK
      refine J.alloc ze86 rfl fun g9 => ?_
      refine J.nilK ?_
      exact hK zq zc zq2 zc2 g9 zv
    ·
      intro gh gh' h
      refine ⟨?_, ?_⟩ <;> rfl
    apply GJ.sn1 15 rfl
    · intro gh; conv => lhs; simp only [slotsZ, zlAt, vs0, resL, at2, eq_self, Nat.reduceEqDiff, reduceIte, Nat.reduceSub, Nat.reduceAdd, List.cons_append, List.nil_append]
      all_goals rfl
    · intro gh X; conv => lhs; simp only [slotsZ, zlAt, vs0, resL, at2, eq_self, Nat.reduceEqDiff, reduceIte, Nat.reduceSub, Nat.reduceAdd, List.cons_append, List.nil_append]
      all_goals rfl
    · intro gh X; conv => lhs; simp only [slotsZ, zlAt, vs0, resL, at2, eq_self, Nat.reduceEqDiff, reduceIte, Nat.reduceSub, Nat.reduceAdd, List.cons_append, List.nil_append]
      all_goals rfl
    ·
      intro gh X K hK
      refine J.storeAll rfl rfl (by first | exact bytesC_one _ | exact intsC_one _ | exact Term.c_one _ | simp [Value.oneCell']) (by simpa [*] using sz86) (by simp [*]) At.z ?_
      refine J.nilK ?_
      exact hK
    ·
      intro gh gh' h
      first | simp only [h 13 rfl] | rfl
    apply GJ.st0 16 rfl
    · intro gh; conv => lhs; simp only [slotsZ, zlAt, vs0, resL, at2, eq_self, Nat.reduceEqDiff, reduceIte, Nat.reduceSub, Nat.reduceAdd, List.cons_append, List.nil_append]
      all_goals rfl
    · intro gh X; conv => lhs; simp only [slotsZ, zlAt, vs0, resL, at2, eq_self, Nat.reduceEqDiff, reduceIte, Nat.reduceSub, Nat.reduceAdd, List.cons_append, List.nil_append]
      all_goals rfl
    · intro gh X; conv => lhs; simp only [slotsZ, zlAt, vs0, resL, at2, eq_self, Nat.reduceEqDiff, reduceIte, Nat.reduceSub, Nat.reduceAdd, List.cons_append, List.nil_append]
      all_goals rfl
    ·
      intro gh X K zq zc zq2 zc2 zb zv hK
      refine J.p (PR.assign rfl) rfl ?_
      refine J.nilK ?_
      exact hK zq zc zq2 zc2 zb zv
    ·
      intro gh gh' h
      first | simp only [h 13 rfl] | rfl
    apply GJ.close [0, 1, 2, 3, 4, 5, 6, 7, 8, 9, 10, 11, 12, 13, 14, 15] [0, 1, 2, 3, 4, 5, 6, 7, 8, 9, 10, 11, 12, 14, 15, 16, 17, 18, 19, 20] foll0 rfl rfl rfl (by rfl)
    · intro gh; conv => lhs; simp only [slotsZ, zlAt, vs0, resL, at2, eq_self, Nat.reduceEqDiff, reduceIte, Nat.reduceSub, Nat.reduceAdd, List.cons_append, List.nil_append]
      all_goals rfl
    · intro gh; conv => lhs; simp only [slotsZ, zlAt, vs0, resL, at2, eq_self, Nat.reduceEqDiff, reduceIte, Nat.reduceSub, Nat.reduceAdd, List.cons_append, List.nil_append]
      all_goals rfl
    intro gh
    generalize (gh 13).b = g9
    clear gh
    refine EJ.thenN (hK8 ?_)
    refine CJ.seq fun _ hK9 _ => ?_
    refine CJ.region ?_
    refine J.p (PR.move rfl) rfl ?_
    refine J.p (PR.neq rfl rfl) rfl ?_
    refine J.nil ?_
    refine EJ.thenN (hK9 ?_)
    refine CJ.condD rfl (fun h33 => ?_) (fun h33 => ?_)
    ·
      refine CJ.head [[], [0], [], [], [], [4], [3, 5], [], [7], [], [8, 9], [10], [11], [6, 12], [13], [2, 14], [15]] (by kernel_rfl) ?_
      refine HJ.op (fun gh => PR.fldA u29 rfl sz27 rfl) ?_
      refine HJ.op (fun gh => PR.load rfl (.s .z) rfl pl27) ?_
      refine HJ.op (fun gh => PR.loadAll rfl At.z (by simpa [*] using ag86)) ?_
      refine HJ.op (fun gh => PR.move rfl) ?_
      refine HJ.op (fun gh => PR.fldA u88 rfl sz2 rfl) ?_
      refine HJ.op (fun gh => PR.ldFac rfl (.s (.s (.s (.s (.s .z))))) ht pl2) ?_
      refine HJ.op (fun gh => PR.mul rfl rfl (by first | exact nw _ (by omega) | rfl)) ?_
      refine HJ.op (fun gh => PR.fldA u29 rfl sz27 rfl) ?_
      refine HJ.op (fun gh => PR.load rfl (.s (.s (.s (.s .z)))) rfl pl27) ?_
      refine HJ.op (fun gh => PR.move rfl) ?_
      refine HJ.op (fun gh => PR.idx u27 sz88 rfl rfl rfl (by omega) hg.sm) ?_
      refine HJ.op (fun gh => PR.fldP u88 rfl sz2 rfl (hg.sm (i := k) (by omega))) ?_
      refine HJ.op (fun gh => PR.loadH rfl (hg.fac (by omega)) pl2) ?_
      refine HJ.op (fun gh => PR.mul rfl rfl (by first | exact nw _ (by omega) | rfl)) ?_
      refine HJ.call fn151 (fun gh => rfl) (fun w X hH => l01Mod_c (by omega) hH) ?_
      refine HJ.op (fun gh => PR.build2 rfl rfl (fun w => bt88 _ _ mP.len w)) ?_
      refine HJ.mk (fun gh => MK.lit1T u27 ze88 sz88 (Term.wf.of mP (by omega)) rfl) ?_
      refine HJ.close 17 3 foll0 (by kernel_rfl) rfl rfl fun gh => ?_
      refine J.conv (us' := (34, _) :: (35, _) :: (36, _) :: (37, _) :: (38, _) :: (39, _) :: (40, _) :: (41, _) :: (42, _) :: (43, _) :: (44, _) :: (45, _) :: (46, _) :: (47, _) :: (48, _) :: (49, _) :: (50, _) :: _) (L' := _ :: _) rfl rfl ?_
      refine J.appendOT u27 ze88 sz88 by88 rfl rfl (by simp only [List.length_cons, List.length_nil]; omega) .z (.s (.s .z)) (fun _ _ => (.s (.s .z))) rfl fun qo51 co51 => ?_
      refine J.p (PR.fldA u29 rfl sz27 rfl) rfl ?_
      refine J.store rfl rfl rfl rfl sz27 (by simp [*]) (.s (.s .z)) ?_
      refine J.nil ?_
      refine EJ.still ?_
      refine JS.nil ?_
      refine EJ.inN ?_
      refine EJ.thenN (hK7 ?_)
      refine CJ.region ?_
      refine J.p (PR.move rfl) rfl ?_
      refine J.p (PR.add rfl rfl (by first | exact nw _ (by omega) | rfl)) rfl ?_
      refine J.p (PR.assign rfl) rfl ?_
      refine J.nil ?_
      refine EJ.thenN ?_
      refine EJ.drop .z ?_
      refine EJ.drop .z ?_
      exact hAg0 (qo51, co51, k + 1) (by show k + 1 ≤ g.length; omega) (by show g.length - (k + 1) < g.length - k; omega) 45 rfl rfl ⟨rfl, trivial⟩ rfl (by dsimp only; rw [← shf_yes (by omega) h33]; rfl)
    ·
      have h33e := Decidable.not_not.1 h33
      refine CJ.skip ?_
      refine EJ.inN ?_
      refine EJ.thenN (hK7 ?_)
      refine CJ.region ?_
      refine J.p (PR.move rfl) rfl ?_
      refine J.p (PR.add rfl rfl (by first | exact nw _ (by omega) | rfl)) rfl ?_
      refine J.p (PR.assign rfl) rfl ?_
      refine J.nil ?_
      refine EJ.thenN ?_
      refine EJ.drop .z ?_
      exact hAg0 (q, c, k + 1) (by show k + 1 ≤ g.length; omega) (by show g.length - (k + 1) < g.length - k; omega) 26 rfl rfl ⟨rfl, trivial⟩ rfl (by dsimp only; rw [shf_no (by omega) h33e])
  ·
    refine CJ.exit ?_
    refine EJ.thenE ?_
    refine EJ.thenE ?_
    refine EJ.inE ?_
    refine EJ.thenN (hK3 ?_)
    refine CJ.seq fun _ hK10 _ => ?_
    refine CJ.region ?_
    refine J.p (PR.loadAll rfl At.z (by simpa [*] using ag29)) rfl ?_
    refine J.storeAll rfl rfl (by first | exact bytesC_one _ | exact intsC_one _ | exact Term.c_one _ | simp [Value.oneCell']) (by simpa [*] using sz29) (by simp [*]) (.s (.s .z)) ?_
    refine J.nil ?_
    refine EJ.thenN (hK10 ?_)
    refine CJ.ret ?_
    refine EJ.ret1 rfl (Res.agg rfl (.s (.s .z)) (by simpa [*] using ag29)) fun w hH => ?_
    replace hH := hH.sublist (.cons _ (.cons_cons _ (.cons _ (.cons _ (.cons _ (List.Sublist.refl _))))))
    obtain rfl : k = g.length := by omega
    rw [List.take_length] at hH ⊢
    exact ⟨_, _, rfl, hH⟩
end Go.Proofs.Ytpojpokldncglaa.G
