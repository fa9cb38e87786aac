/- The sum of two forms, as the reference has it: merged in order. No condition. -/
import Derived.Test.YtpojpokldncglaaGMap
import Derived.Test.YtpojpokldncglaaProg
import Derived.Test.YtpojpokldncglaaWa
import Derived.Test.YtpojpokldncglaaWb
import Derived.Test.YtpojpokldncglaaWc
import Derived.Test.YtpojpokldncglaaWd
import Derived.Test.YtpojpokldncglaaWe
import Derived.Test.YtpojpokldncglaaWf
import Derived.Test.YtpojpokldncglaaWg
import Derived.Test.YtpojpokldncglaaWh
import Derived.Test.YtpojpokldncglaaWi
import Derived.Test.YtpojpokldncglaaWj
import Derived.Test.YtpojpokldncglaaWk
import Derived.Test.YtpojpokldncglaaWl
import Derived.Test.YtpojpokldncglaaWm
import Derived.Test.YtpojpokldncglaaWn
import Derived.Test.YtpojpokldncglaaWo
import Derived.Test.YtpojpokldncglaaWp
import Derived.Test.YtpojpokldncglaaXa
import Derived.Test.YtpojpokldncglaaXb
import Derived.DeepKeys4
import Derived.Test.YtpojpokldncglaaXc
import Derived.Test.YtpojpokldncglaaXd
import Derived.Test.YtpojpokldncglaaXe
import Derived.Test.YtpojpokldncglaaXf
import Derived.Test.YtpojpokldncglaaXg
import Derived.Test.YtpojpokldncglaaXh
import Derived.Test.YtpojpokldncglaaXi
import Derived.Test.YtpojpokldncglaaXj
import Derived.Test.YtpojpokldncglaaXk
set_option linter.unusedVariables false
set_option linter.unusedSimpArgs false
namespace Go.Proofs.Ytpojpokldncglaa.G
open Go Go.RowKit
namespace Xl

end Xl
open Xl

/-- f plus k times g, merged -/
def mrg (k : Int) : List Term → List Term → List Term
  | [], [] => []
  | x :: f, [] => x :: mrg k f []
  | [], y :: g => if fld (k * y.fac) = 0 then mrg k [] g else ⟨y.mono, fld (k * y.fac)⟩ :: mrg k [] g
  | x :: f, y :: g => if before x.mono y.mono then x :: mrg k f (y :: g)
    else if before y.mono x.mono then (if fld (k * y.fac) = 0 then mrg k (x :: f) g else ⟨y.mono, fld (k * y.fac)⟩ :: mrg k (x :: f) g)
    else (if fld (x.fac + fld (k * y.fac)) = 0 then mrg k f g else ⟨x.mono, fld (x.fac + fld (k * y.fac))⟩ :: mrg k f g)
termination_by f g => f.length + g.length
theorem mrg_len (k : Int) : ∀ (f g : List Term), (mrg k f g).length ≤ f.length + g.length
  | [], [] => by simp [mrg]
  | x :: f, [] => by
    have := mrg_len k f []
    rw [mrg]
    simp at this ⊢
    omega
  | [], y :: g => by
    have := mrg_len k [] g
    rw [mrg]
    split <;> simp at this ⊢ <;> omega
  | x :: f, y :: g => by
    have h1 := mrg_len k f (y :: g)
    have h2 := mrg_len k (x :: f) g
    have h3 := mrg_len k f g
    rw [mrg]
    split
    · simp at h1 ⊢; omega
    · split
      · split <;> simp at h2 ⊢ <;> omega
      · split <;> simp at h3 ⊢ <;> omega
termination_by f g => f.length + g.length
theorem mrg_mem (k : Int) : ∀ (f g : List Term) (z : Term), z ∈ mrg k f g → ∃ y, (y ∈ f ∨ y ∈ g) ∧ z.mono = y.mono
  | [], [], z, h => by simp [mrg] at h
  | x :: f, [], z, h => by
    rw [mrg] at h
    rcases List.mem_cons.1 h with rfl | h
    · exact ⟨z, .inl (by simp), rfl⟩
    · obtain ⟨y, hy, e⟩ := mrg_mem k f [] z h
      exact ⟨y, hy.imp (fun h => by simp [h]) id, e⟩
  | [], y :: g, z, h => by
    rw [mrg] at h
    have rec_ : z ∈ mrg k [] g → ∃ y', (y' ∈ ([] : List Term) ∨ y' ∈ y :: g) ∧ z.mono = y'.mono := fun h => by
      obtain ⟨y', hy, e⟩ := mrg_mem k [] g z h
      exact ⟨y', hy.imp id (fun h => by simp [h]), e⟩
    split at h
    · exact rec_ h
    · rcases List.mem_cons.1 h with rfl | h
      · exact ⟨y, .inr (by simp), rfl⟩
      · exact rec_ h
  | x :: f, y :: g, z, h => by
    rw [mrg] at h
    have r1 : z ∈ mrg k f (y :: g) → ∃ y', (y' ∈ x :: f ∨ y' ∈ y :: g) ∧ z.mono = y'.mono := fun h => by
      obtain ⟨y', hy, e⟩ := mrg_mem k f (y :: g) z h
      exact ⟨y', hy.imp (fun h => by simp [h]) id, e⟩
    have r2 : z ∈ mrg k (x :: f) g → ∃ y', (y' ∈ x :: f ∨ y' ∈ y :: g) ∧ z.mono = y'.mono := fun h => by
      obtain ⟨y', hy, e⟩ := mrg_mem k (x :: f) g z h
      exact ⟨y', hy.imp id (fun h => by simp [h]), e⟩
    have r3 : z ∈ mrg k f g → ∃ y', (y' ∈ x :: f ∨ y' ∈ y :: g) ∧ z.mono = y'.mono := fun h => by
      obtain ⟨y', hy, e⟩ := mrg_mem k f g z h
      exact ⟨y', hy.imp (fun h => by simp [h]) (fun h => by simp [h]), e⟩
    split at h
    · rcases List.mem_cons.1 h with rfl | h
      · exact ⟨z, .inl (by simp), rfl⟩
      · exact r1 h
    · split at h
      · split at h
        · exact r2 h
        · rcases List.mem_cons.1 h with rfl | h
          · exact ⟨y, .inr (by simp), rfl⟩
          · exact r2 h
      · split at h
        · exact r3 h
        · rcases List.mem_cons.1 h with rfl | h
          · exact ⟨x, .inl (by simp), rfl⟩
          · exact r3 h
termination_by f g => f.length + g.length
theorem cf_toS_none {ts : List Term} {p : Pw} (h : ∀ t ∈ ts, t.mono ≠ p) : cf (toS ts) p = 0 := cf_none fun x hx => by
  obtain ⟨t, ht, rfl⟩ := toS_mem hx
  exact h t ht
theorem Gok.tl {M : Int} {x : Term} {ts : List Term} (h : Gok M (toS (x :: ts))) : Gok M (toS ts) := ⟨(List.pairwise_cons.1 h.srt).2, fun y hy => h.key y (List.mem_cons_of_mem _ hy), fun y hy => h.val y (List.mem_cons_of_mem _ hy)⟩
theorem Gok.hd {M : Int} {x : Term} {ts : List Term} (h : Gok M (toS (x :: ts))) : ∀ y ∈ ts, before x.mono y.mono = true := fun y hy => (List.pairwise_cons.1 h.srt).1 (y.mono, y.fac) (List.mem_map.2 ⟨y, hy, rfl⟩)
theorem cf_cons (x : Term) (ts : List Term) (p : Pw) : cf (toS (x :: ts)) p = if x.mono = p then x.fac else cf (toS ts) p := rfl
theorem fld0 : fld 0 = 0 := by rw [fld_eq]; rfl
theorem fld_id {x : Int} (h : 0 ≤ x ∧ x ≤ 10006) : fld x = x := by rw [fld_eq]; omega
theorem cf_mrg (k : Int) (p : Pw) {M N : Int} : ∀ (f g : List Term), Gok M (toS f) → Gok N (toS g) → cf (toS (mrg k f g)) p = fld (cf (toS f) p + fld (k * cf (toS g) p))
  | [], [], _, _ => by
    rw [mrg]
    show (0 : Int) = fld (0 + fld (k * 0))
    rw [Int.mul_zero, fld0]
    exact fld0.symm
  | x :: f, [], hf, hg => by
    rw [mrg, cf_cons, cf_cons, cf_mrg k p f [] hf.tl hg]
    have e0 : cf (toS []) p = 0 := rfl
    rw [e0, Int.mul_zero, fld0]
    split
    · rw [Int.add_zero, fld_id (hf.val (x.mono, x.fac) (List.mem_cons_self))]
    · rfl
  | [], y :: g, hf, hg => by
    have ih := cf_mrg k p [] g hf hg.tl
    have e0 : cf (toS []) p = 0 := rfl
    rw [e0, Int.zero_add] at ih ⊢
    have ng : y.mono = p → cf (toS g) p = 0 := fun e => cf_toS_none fun t ht e2 => before_ne (hg.hd t ht) (e.trans e2.symm)
    have ff : ∀ a, fld (fld a) = fld a := fun a => fld_id (fld_bd a)
    rw [mrg, cf_cons]
    by_cases e : y.mono = p
    · rw [if_pos e, ff]
      split
      · rename_i hz
        rw [ih, ng e, Int.mul_zero, fld0, fld0, hz]
      · rw [cf_cons, if_pos e]
    · rw [if_neg e]
      split
      · exact ih
      · rw [cf_cons, if_neg e, ih]
  | x :: f, y :: g, hf, hg => by
    have i1 := cf_mrg k p f (y :: g) hf.tl hg
    have i2 := cf_mrg k p (x :: f) g hf hg.tl
    have i3 := cf_mrg k p f g hf.tl hg.tl
    have vx := hf.val (x.mono, x.fac) (List.mem_cons_self)
    have ff : ∀ a, fld (fld a) = fld a := fun a => fld_id (fld_bd a)
    have nf : x.mono = p → cf (toS f) p = 0 := fun e => cf_toS_none fun t ht e2 => before_ne (hf.hd t ht) (e.trans e2.symm)
    have ng : y.mono = p → cf (toS g) p = 0 := fun e => cf_toS_none fun t ht e2 => before_ne (hg.hd t ht) (e.trans e2.symm)
    rw [mrg]
    split
    · rename_i hb
      rw [cf_cons, cf_cons, i1]
      by_cases e : x.mono = p
      · rw [if_pos e, if_pos e]
        have : cf (toS (y :: g)) p = 0 := cf_toS_none fun t ht e2 => by
          rcases List.mem_cons.1 ht with rfl | ht
          · exact before_ne hb (e.trans e2.symm)
          · exact before_ne (before_tr hb (hg.hd t ht)) (e.trans e2.symm)
        rw [this, Int.mul_zero, fld0, Int.add_zero, fld_id vx]
      · rw [if_neg e, if_neg e]
    · split
      · rename_i hb
        have nx : y.mono = p → cf (toS (x :: f)) p = 0 := fun e => cf_toS_none fun t ht e2 => by
          rcases List.mem_cons.1 ht with rfl | ht
          · exact before_ne hb (e.trans e2.symm)
          · exact before_ne (before_tr hb (hf.hd t ht)) (e.trans e2.symm)
        rw [cf_cons y]
        by_cases e : y.mono = p
        · rw [if_pos e, nx e, Int.zero_add, ff]
          split
          · rename_i hz
            rw [i2, nx e, ng e, Int.mul_zero, fld0, Int.zero_add, fld0, hz]
          · rw [cf_cons, if_pos e]
        · rw [if_neg e]
          split
          · exact i2
          · rw [cf_cons, if_neg e, i2]
      · rename_i h1 h2
        have exy : x.mono = y.mono := before_tot (hf.key (x.mono, x.fac) (List.mem_cons_self)).len (hg.key (y.mono, y.fac) (List.mem_cons_self)).len (by simpa using h1) (by simpa using h2)
        rw [cf_cons x, cf_cons y]
        by_cases e : x.mono = p
        · have e' : y.mono = p := exy.symm.trans e
          rw [if_pos e, if_pos e']
          split
          · rename_i hz
            rw [i3, nf e, ng e', Int.mul_zero, fld0, Int.zero_add, fld0, hz]
          · rw [cf_cons, if_pos e]
        · have e' : ¬ y.mono = p := fun h => e (exy.trans h)
          rw [if_neg e, if_neg e']
          split
          · exact i3
          · rw [cf_cons, if_neg e, i3]
termination_by f g => f.length + g.length


theorem Gok.mono {M M' : Int} {s : Sm} (h : Gok M s) (hM : M ≤ M') : Gok M' s := ⟨h.srt, fun x hx => (h.key x hx).mono hM, h.val⟩
theorem srt_cons {x : Term} {ts : List Term} (h : ∀ y ∈ ts, before x.mono y.mono = true) (h2 : (toS ts).Pairwise fun x y => before x.1 y.1 = true) : (toS (x :: ts)).Pairwise fun x y => before x.1 y.1 = true :=
  List.pairwise_cons.2 ⟨fun z hz => by
    obtain ⟨t, ht, rfl⟩ := toS_mem hz
    exact h t ht, h2⟩
theorem mrg_srt (k : Int) {M N : Int} : ∀ (f g : List Term), Gok M (toS f) → Gok N (toS g) → (toS (mrg k f g)).Pairwise fun x y => before x.1 y.1 = true
  | [], [], _, _ => by rw [mrg]; exact List.Pairwise.nil
  | x :: f, [], hf, hg => by
    rw [mrg]
    refine srt_cons (fun z hz => ?_) (mrg_srt k f [] hf.tl hg)
    obtain ⟨y, hy, e⟩ := mrg_mem k f [] z hz
    rw [e]
    rcases hy with hy | hy
    · exact hf.hd y hy
    · simp at hy
  | [], y :: g, hf, hg => by
    have ih := mrg_srt k [] g hf hg.tl
    rw [mrg]
    split
    · exact ih
    · refine srt_cons (fun z hz => ?_) ih
      obtain ⟨w, hw, e⟩ := mrg_mem k [] g z hz
      rw [e]
      rcases hw with hw | hw
      · simp at hw
      · exact hg.hd w hw
  | x :: f, y :: g, hf, hg => by
    have i1 := mrg_srt k f (y :: g) hf.tl hg
    have i2 := mrg_srt k (x :: f) g hf hg.tl
    have i3 := mrg_srt k f g hf.tl hg.tl
    rw [mrg]
    split
    · rename_i hb
      refine srt_cons (fun z hz => ?_) i1
      obtain ⟨w, hw, e⟩ := mrg_mem k f (y :: g) z hz
      rw [e]
      rcases hw with hw | hw
      · exact hf.hd w hw
      · rcases List.mem_cons.1 hw with rfl | hw
        · exact hb
        · exact before_tr hb (hg.hd w hw)
    · split
      · rename_i hb
        split
        · exact i2
        · refine srt_cons (fun z hz => ?_) i2
          obtain ⟨w, hw, e⟩ := mrg_mem k (x :: f) g z hz
          rw [e]
          rcases hw with hw | hw
          · rcases List.mem_cons.1 hw with rfl | hw
            · exact hb
            · exact before_tr hb (hf.hd w hw)
          · exact hg.hd w hw
      · rename_i h1 h2
        have exy : x.mono = y.mono := before_tot (hf.key (x.mono, x.fac) (List.mem_cons_self)).len (hg.key (y.mono, y.fac) (List.mem_cons_self)).len (by simpa using h1) (by simpa using h2)
        split
        · exact i3
        · refine srt_cons (fun z hz => ?_) i3
          obtain ⟨w, hw, e⟩ := mrg_mem k f g z hz
          show before x.mono z.mono = true
          rw [e]
          rcases hw with hw | hw
          · exact hf.hd w hw
          · rw [exy]; exact hg.hd w hw
termination_by f g => f.length + g.length
theorem mrg_val (k : Int) : ∀ (f g : List Term), (∀ x ∈ f, 1 ≤ x.fac ∧ x.fac ≤ 10006) → ∀ z ∈ mrg k f g, 1 ≤ z.fac ∧ z.fac ≤ 10006
  | [], [], _, z, hz => by simp [mrg] at hz
  | x :: f, [], h, z, hz => by
    rw [mrg] at hz
    rcases List.mem_cons.1 hz with rfl | hz
    · exact h _ (by simp)
    · exact mrg_val k f [] (fun x hx => h x (by simp [hx])) z hz
  | [], y :: g, h, z, hz => by
    have ih := mrg_val k [] g h z
    rw [mrg] at hz
    split at hz
    · exact ih hz
    · rename_i hn
      rcases List.mem_cons.1 hz with rfl | hz
      · have := fld_bd (k * y.fac); show 1 ≤ fld (k * y.fac) ∧ fld (k * y.fac) ≤ 10006; omega
      · exact ih hz
  | x :: f, y :: g, h, z, hz => by
    have i1 := mrg_val k f (y :: g) (fun x hx => h x (by simp [hx])) z
    have i2 := mrg_val k (x :: f) g h z
    have i3 := mrg_val k f g (fun x hx => h x (by simp [hx])) z
    rw [mrg] at hz
    split at hz
    · rcases List.mem_cons.1 hz with rfl | hz
      · exact h _ (by simp)
      · exact i1 hz
    · split at hz
      · split at hz
        · exact i2 hz
        · rename_i hn
          rcases List.mem_cons.1 hz with rfl | hz
          · have := fld_bd (k * y.fac); show 1 ≤ fld (k * y.fac) ∧ fld (k * y.fac) ≤ 10006; omega
          · exact i2 hz
      · split at hz
        · exact i3 hz
        · rename_i hn
          rcases List.mem_cons.1 hz with rfl | hz
          · have := fld_bd (x.fac + fld (k * y.fac)); show 1 ≤ fld (x.fac + fld (k * y.fac)) ∧ fld (x.fac + fld (k * y.fac)) ≤ 10006; omega
          · exact i3 hz
termination_by f g => f.length + g.length
theorem mrg_sok {k M : Int} {f g : List Term} (hf : Sok M (toS f)) (hg : Gok M (toS g)) : Sok M (toS (mrg k f g)) := by
  refine ⟨mrg_srt k f g hf.g hg, fun x hx => ?_, fun x hx => ?_⟩
  · obtain ⟨t, ht, rfl⟩ := toS_mem hx
    obtain ⟨y, hy, e⟩ := mrg_mem k f g t ht
    show Pok M t.mono
    rw [e]
    rcases hy with hy | hy
    · exact hf.key (y.mono, y.fac) (List.mem_map.2 ⟨y, hy, rfl⟩)
    · exact hg.key (y.mono, y.fac) (List.mem_map.2 ⟨y, hy, rfl⟩)
  · obtain ⟨t, ht, rfl⟩ := toS_mem hx
    exact mrg_val k f g (fun x hx => hf.val (x.mono, x.fac) (List.mem_map.2 ⟨x, hx, rfl⟩)) t ht
theorem tot_scl (k : Int) (p : Pw) : ∀ {t : Sm}, (t.map (·.1)).Nodup → tot_ (scl t k) p = (cf t p * k).tmod 10007
  | [], _ => by simp [scl, tot_, cf]
  | x :: t, hn => by
    simp only [List.map_cons, List.nodup_cons] at hn
    have ih := tot_scl k p hn.2
    unfold scl at ih ⊢
    simp only [List.map_cons, tot_, cf]
    by_cases e : x.1 = p
    · rw [if_pos e, if_pos e, ih, cf_none fun z hz e2 => hn.1 (by rw [e, ← e2]; exact List.mem_map.2 ⟨z, hz, rfl⟩)]
      simp
    · rw [if_neg e, if_neg e, ih, Int.zero_add]
theorem Gok.nodup {M : Int} {s : Sm} (h : Gok M s) : (s.map (·.1)).Nodup := by
  rw [List.Nodup, List.pairwise_map]
  exact h.srt.imp fun h => before_ne h
theorem Gok.scl {M : Int} {s : Sm} (h : Gok M s) (k : Int) : ∀ z ∈ scl s k, Pok M z.1 := fun z hz => by
  obtain ⟨y, hy, e⟩ := scl_key hz
  rw [e]
  exact h.key y hy
/-- Merged is added up. -/
theorem mrg_acc {k M : Int} {f g : List Term} (hf : Sok M (toS f)) (hg : Gok M (toS g)) : mrg k f g = ofS (acc (toS f) (scl (toS g) k)) := by
  have e : toS (mrg k f g) = acc (toS f) (scl (toS g) k) := Sok.ext (mrg_sok hf hg) (hf.acc (hg.scl k)) fun p => by
    rw [cf_mrg k p f g hf.g hg, cf_acc p hf (hg.scl k), tot_scl k p hg.nodup, fld_tmod, Int.mul_comm]
    have := fld_eq (cf (toS f) p + fld (cf (toS g) p * k))
    rw [fld_eq (cf (toS f) p + fld (cf (toS g) p * k)), fld_eq (cf (toS f) p + cf (toS g) p * k), fld_eq (cf (toS g) p * k)]
    omega
  rw [← e, ofS_toS]
/-! ### the walk's steps -/
theorem drop_tm {f : List Term} {i : Nat} (hi : i < f.length) : f.drop i = tm f i :: f.drop (i + 1) := by
  rw [List.drop_eq_getElem_cons hi]
  simp [tm, List.getD_eq_getElem?_getD, List.getElem?_eq_getElem hi]
theorem mrgA1 {k : Int} {f g : List Term} {i j : Nat} (hi : i < f.length) (hj : j = g.length) : mrg k (f.drop i) (g.drop j) = tm f i :: mrg k (f.drop (i + 1)) (g.drop j) := by
  rw [drop_tm hi, List.drop_of_length_le (Nat.le_of_eq hj.symm), mrg]
theorem mrgA2 {k : Int} {f g : List Term} {i j : Nat} (hi : i < f.length) (hj : j < g.length) (hb : before (tm f i).mono (tm g j).mono = true) : mrg k (f.drop i) (g.drop j) = tm f i :: mrg k (f.drop (i + 1)) (g.drop j) := by
  rw [drop_tm hi, drop_tm hj, mrg, if_pos hb]
theorem mrgB1 {k : Int} {f g : List Term} {i j : Nat} (hi : i = f.length) (hj : j < g.length) : mrg k (f.drop i) (g.drop j) = if fld (k * (tm g j).fac) = 0 then mrg k (f.drop i) (g.drop (j + 1)) else ⟨(tm g j).mono, fld (k * (tm g j).fac)⟩ :: mrg k (f.drop i) (g.drop (j + 1)) := by
  rw [drop_tm hj, List.drop_of_length_le (Nat.le_of_eq hi.symm), mrg]
theorem mrgB2 {k : Int} {f g : List Term} {i j : Nat} (hi : i < f.length) (hj : j < g.length) (h1 : ¬ before (tm f i).mono (tm g j).mono = true) (h2 : before (tm g j).mono (tm f i).mono = true) : mrg k (f.drop i) (g.drop j) = if fld (k * (tm g j).fac) = 0 then mrg k (f.drop i) (g.drop (j + 1)) else ⟨(tm g j).mono, fld (k * (tm g j).fac)⟩ :: mrg k (f.drop i) (g.drop (j + 1)) := by
  rw [drop_tm hi, drop_tm hj, mrg, if_neg h1, if_pos h2]
theorem mrgC {k : Int} {f g : List Term} {i j : Nat} (hi : i < f.length) (hj : j < g.length) (h1 : ¬ before (tm f i).mono (tm g j).mono = true) (h2 : ¬ before (tm g j).mono (tm f i).mono = true) : mrg k (f.drop i) (g.drop j) = if fld ((tm f i).fac + fld (k * (tm g j).fac)) = 0 then mrg k (f.drop (i + 1)) (g.drop (j + 1)) else ⟨(tm f i).mono, fld ((tm f i).fac + fld (k * (tm g j).fac))⟩ :: mrg k (f.drop (i + 1)) (g.drop (j + 1)) := by
  rw [drop_tm hi, drop_tm hj, mrg, if_neg h1, if_neg h2]
theorem mrg_nn (k : Int) : mrg k [] [] = [] := by rw [mrg]
/-- how far the merge is -/
def MgAt (k : Int) (f g O : List Term) (i j : Nat) : Prop := O ++ mrg k (f.drop i) (g.drop j) = mrg k f g
theorem MgAt.app {k : Int} {f g O : List Term} {i j i' j' : Nat} (h : MgAt k f g O i j) {t : Term} (e : mrg k (f.drop i) (g.drop j) = t :: mrg k (f.drop i') (g.drop j')) : MgAt k f g (O ++ [t]) i' j' := by
  unfold MgAt at h ⊢
  rw [e] at h
  rw [List.append_assoc]
  exact h
theorem MgAt.skip {k : Int} {f g O : List Term} {i j i' j' : Nat} (h : MgAt k f g O i j) (e : mrg k (f.drop i) (g.drop j) = mrg k (f.drop i') (g.drop j')) : MgAt k f g O i' j' := by
  unfold MgAt at h ⊢
  rw [e] at h
  exact h
theorem MgAt.len {k : Int} {f g O : List Term} {i j : Nat} (h : MgAt k f g O i j) : O.length ≤ f.length + g.length := by
  have h1 := mrg_len k f g
  have h2 := congrArg List.length h
  rw [List.length_append] at h2
  omega
theorem mrg_wf {k : Int} {f g : List Term} {M : Int} (hf : Sok M (toS f)) (hg : Gok M (toS g)) (hM : M ≤ 255) : Wfs (mrg k f g) := by
  have := (mrg_sok (k := k) hf hg).wf hM
  rwa [ofS_toS] at this
theorem MgAt.wf {k : Int} {f g O : List Term} {i j : Nat} (h : MgAt k f g O i j) (hw : Wfs (mrg k f g)) : Wfs O := fun t ht => hw t (by rw [← h]; simp [ht])

end Go.Proofs.Ytpojpokldncglaa.G
