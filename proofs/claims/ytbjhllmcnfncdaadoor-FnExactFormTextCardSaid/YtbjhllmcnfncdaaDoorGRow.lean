/- From a law's walk to its row: how arguments lie in memory at the call, and what is to be shown behind it. No condition. -/
import Derived.Test.YtbjhllmcnfncdaaDoorGData
import Derived.ProofKit
import Derived.OpenShut
namespace Go.Proofs.YtbjhllmcnfncdaaDoor.G
open Go Go.RowKit Go.ChangeShapes Go.WideShapes Go.ChangeAt

section
variable {E : Type} {enc : TypeId × Value → E} {P : Program} {w : World} {base : Nat} {sp : Nat → Bool} {held : Bool} {fuel : Nat} {cs : List Value} {x : DataW E × List MemPlace}

theorem cellO_hp (w : World) (a : Addr) (k : Nat) : cellO (hp w) (some a) k = w.cell? (a.add k) := rfl

theorem cells_get {a : Addr} {m : Nat} {l : List Value} (h : w.cells? base a m = some l) : l.length = m ∧ ∀ j v, l[j]? = some v → w.cell? (a.add j) = some v := by
  unfold World.cells? at h
  split at h
  · have hl : l.length = m := by simpa using mapM_some_length h
    refine ⟨hl, fun j v hj => ?_⟩
    have hj' : j < m := by have := (List.getElem?_eq_some_iff.1 hj).1; omega
    have := mapM_some_get h j j (by simp [hj'])
    rw [this, hj]
  · cases h

theorem wf_i64 {n : Int} (h : (Lit.int .i64 n).wf = true) : -9223372036854775808 ≤ n ∧ n ≤ 9223372036854775807 := by
  simpa [Lit.wf, IntKind.min, IntKind.max, IntKind.signed, IntKind.bits] using h
theorem wf_u8 {n : Int} (h : (Lit.int .u8 n).wf = true) : 0 ≤ n ∧ n ≤ 255 := by
  simpa [Lit.wf, IntKind.min, IntKind.max, IntKind.signed, IntKind.bits] using h

theorem tr_ints {t e : TypeId} (ht : P.underlying t = some (.slice e)) (he : P.underlying e = some (.int .i64)) (hc : P.cellsOf e = 1) (h : DataW.trod enc P w base sp held fuel t cs = some x) :
    ∃ q xs c, cs = [.slice q xs.length c] ∧ xs.length ≤ c ∧ Ints (hp w) q xs ∧ ∀ i, -9223372036854775808 ≤ xs.getD i 0 ∧ xs.getD i 0 ≤ 9223372036854775807 := by
  rcases open_ints ht he hc h with ⟨rfl, _⟩ | ⟨a, len, cap, zs, rfl, _, hl, _, hz, _, hcell, hwf⟩
  · exact ⟨none, [], 0, rfl, Nat.le_refl _, fun i hi => by simp at hi, fun i => by simp⟩
  · have hlz : len ≤ zs.length := by rw [hz]; split <;> omega
    refine ⟨some a, zs.take len, cap, by simp [hlz], by simp; omega, fun i hi => ?_, fun i => ?_⟩
    · have hi' : i < len := by simp at hi; omega
      rw [cellO_hp, hcell i (by omega), List.getD_eq_getElem?_getD, List.getD_eq_getElem?_getD, List.getElem?_take, if_pos hi']
    · rw [List.getD_eq_getElem?_getD]
      cases e : (zs.take len)[i]? with
      | none => simp
      | some v =>
        have hm := List.mem_of_mem_take (List.mem_of_getElem? e)
        simpa using wf_i64 (hwf v hm)

theorem tr_bytes8 {t e : TypeId} (ht : P.underlying t = some (.array 8 e)) (he : P.underlying e = some (.int .u8)) (hc : P.cellsOf e = 1) (hct : P.cellsOf t = 8) (h : DataW.trod enc P w base sp held fuel t cs = some x) :
    ∃ m, cs = bytesC m ∧ Mono m := by
  obtain ⟨xs, n, _, _, hl, hx, hf⟩ := DataW.trod_array ht h
  rw [hct] at hl
  rw [hc] at hf
  have key : ∀ i, i < 8 → ∃ b : Int, cs[i]? = some (.int .u8 b) ∧ 0 ≤ b ∧ b ≤ 255 := by
    intro i hi
    have h1 := hf i hi
    rw [List.getElem?_eq_getElem (by omega : i < xs.length)] at h1
    obtain ⟨b, hb, _, hw⟩ := DataW.trod_int he h1
    refine ⟨b, ?_, wf_u8 hw⟩
    rw [Nat.mul_one, List.drop_eq_getElem_cons (by omega : i < cs.length)] at hb
    rw [List.getElem?_eq_getElem (by omega : i < cs.length)]
    rw [List.take_succ_cons] at hb
    exact congrArg some (List.cons.inj hb).1
  let m := cs.map fun v => match v with | .int _ b => b | _ => 0
  have hm : ∀ i, i < 8 → ∀ b, cs[i]? = some (.int .u8 b) → m.getD i 0 = b := fun i hi b hb => by
    simp [m, List.getD_eq_getElem?_getD, List.getElem?_map, hb]
  refine ⟨m, ?_, by simp [m, hl], fun i => ?_⟩
  · apply List.ext_getElem?
    intro i
    rcases Nat.lt_or_ge i 8 with hi | hi
    · obtain ⟨b, hb, _⟩ := key i hi
      rw [bytesC_get (by simp [m, hl, hi]), hm i hi b hb, hb]
    · rw [List.getElem?_eq_none (by omega), List.getElem?_eq_none (by simp [m]; omega)]
  · rcases Nat.lt_or_ge i 8 with hi | hi
    · obtain ⟨b, hb, h1⟩ := key i hi
      rw [hm i hi b hb]
      exact h1
    · rw [List.getD_eq_getElem?_getD, List.getElem?_eq_none (by simp [m]; omega)]
      simp

theorem tr_term {t ta e ti : TypeId} {f0 f1 : Field} (ht : P.underlying t = some (.struct #[f0, f1])) (h0 : f0.type = ta) (o0 : f0.offset = 0) (h1 : f1.type = ti) (o1 : f1.offset = 8) (hta : P.underlying ta = some (.array 8 e)) (he : P.underlying e = some (.int .u8)) (hc : P.cellsOf e = 1) (hca : P.cellsOf ta = 8) (hti : P.underlying ti = some (.int .i64)) (hci : P.cellsOf ti = 1) (hct : P.cellsOf t = 9)
    (h : DataW.trod enc P w base sp held fuel t cs = some x) : ∃ tr : Term, cs = tr.c ∧ tr.wf := by
  obtain ⟨y0, y1, n, _, hl, hf0, hf1⟩ := trod_struct2 ht h
  rw [h0, o0, hca, List.drop_zero] at hf0
  rw [h1, o1, hci] at hf1
  rw [hct] at hl
  obtain ⟨m, hm, hmm⟩ := tr_bytes8 hta he hc hca hf0
  obtain ⟨b, hb, _, hw⟩ := DataW.trod_int hti hf1
  refine ⟨⟨m, b⟩, ?_, hmm, wf_i64 hw⟩
  have hd : (cs.drop 8).take 1 = cs.drop 8 := List.take_of_length_le (by simp; omega)
  rw [hd] at hb
  rw [← List.take_append_drop 8 cs, hm, hb]
  rfl

theorem list_of {α : Type} {R : Nat → α → Prop} : ∀ len : Nat, (∀ i, i < len → ∃ z, R i z) → ∃ zs : List α, zs.length = len ∧ ∀ i z, zs[i]? = some z → R i z
  | 0, _ => ⟨[], rfl, fun i z hz => by simp at hz⟩
  | len + 1, key => by
    obtain ⟨zs, h1, h2⟩ := list_of len (fun i hi => key i (by omega))
    obtain ⟨z, hz⟩ := key len (by omega)
    refine ⟨zs ++ [z], by simp [h1], fun i z' hz' => ?_⟩
    rcases Nat.lt_or_ge i zs.length with hi | hi
    · rw [List.getElem?_append_left hi] at hz'
      exact h2 i z' hz'
    · have : i = len := by
        have := (List.getElem?_eq_some_iff.1 hz').1
        simp at this
        omega
      subst this
      rw [List.getElem?_append_right hi, h1] at hz'
      simp at hz'
      subst hz'
      exact hz
/-- a slice, element by element -/
theorem tr_slice {t e : TypeId} {sz : Nat} {α : Type} {R : α → List Value → Prop} (ht : P.underlying t = some (.slice e)) (hc : P.cellsOf e = sz) (hR : ∀ n l y, DataW.trod enc P w base sp held n e l = some y → ∃ z, R z l)
    (h : DataW.trod enc P w base sp held fuel t cs = some x) :
    ∃ q c, ∃ zs : List α, cs = [.slice q zs.length c] ∧ (zs.length ≤ c ∧ zs.length ≤ 9223372036854775807) ∧ ∀ i z, zs[i]? = some z → ∃ l, l.length = sz ∧ R z l ∧ ∀ j v, l[j]? = some v → cellO (hp w) q (i * sz + j) = some v := by
  rcases DataW.trod_slice ht h with ⟨rfl, _⟩ | ⟨a, len, cap, elems, rest, n, _, rfl, _, _, hl, hmx, hlen, hel, _⟩
  · exact ⟨none, 0, [], rfl, ⟨Nat.le_refl _, by simp⟩, fun i z hz => by simp at hz⟩
  · rw [hc] at hel
    have key : ∀ i, i < len → ∃ z, ∃ l, l.length = sz ∧ R z l ∧ ∀ j v, l[j]? = some v → cellO (hp w) (some a) (i * sz + j) = some v := by
      intro i hi
      have h1 := hel i hi
      rw [List.getElem?_eq_getElem (by omega : i < elems.length)] at h1
      cases hcs : w.cells? base (a.add (i * sz)) sz with
      | none => simp [hcs] at h1
      | some l =>
        rw [hcs] at h1
        obtain ⟨z, hz⟩ := hR n l _ h1
        obtain ⟨g1, g2⟩ := cells_get hcs
        refine ⟨z, l, g1, hz, fun j v hj => ?_⟩
        rw [cellO_hp, ← add_add]
        exact g2 j v hj
    have ex := list_of len key
    obtain ⟨zs, h1, h2⟩ := ex
    exact ⟨some a, cap, zs, by rw [h1], ⟨by omega, by simp only [maxLen] at hmx; omega⟩, h2⟩

theorem tr_terms {t e : TypeId} (ht : P.underlying t = some (.slice e)) (hc : P.cellsOf e = 9) (hR : ∀ n l (y : DataW E × List MemPlace), DataW.trod enc P w base sp held n e l = some y → ∃ tr : Term, l = tr.c ∧ tr.wf)
    (h : DataW.trod enc P w base sp held fuel t cs = some x) : ∃ q c, ∃ ts : List Term, cs = [.slice q ts.length c] ∧ (ts.length ≤ c ∧ ts.length ≤ 9223372036854775807) ∧ Terms (hp w) q ts := by
  obtain ⟨q, c, ts, h1, h2, h3⟩ := tr_slice (R := fun (tr : Term) l => l = tr.c ∧ tr.wf) ht hc hR h
  have get : ∀ i, i < ts.length → ts[i]? = some (tm ts i) := fun i hi => by simp [tm, List.getD_eq_getElem?_getD, List.getElem?_eq_getElem hi]
  refine ⟨q, c, ts, h1, h2, fun i hi => ?_, fun i hi j v hj => ?_⟩
  · obtain ⟨l, _, ⟨_, hw⟩, _⟩ := h3 i _ (get i hi)
    exact hw
  · obtain ⟨l, _, ⟨rfl, _⟩, hl⟩ := h3 i _ (get i hi)
    exact hl j v hj
theorem tr_ints2 {t e : TypeId} (ht : P.underlying t = some (.slice e)) (he : P.underlying e = some (.int .i64)) (hc : P.cellsOf e = 1) (h : DataW.trod enc P w base sp held fuel t cs = some x) :
    ∃ q c, ∃ xs : List Int, cs = [.slice q xs.length c] ∧ (xs.length ≤ c ∧ xs.length ≤ 9223372036854775807) ∧ Ints (hp w) q xs ∧ ∀ i, -9223372036854775808 ≤ xs.getD i 0 ∧ xs.getD i 0 ≤ 9223372036854775807 := by
  obtain ⟨q, c, xs, h1, h2, h3⟩ := tr_slice (R := fun (b : Int) l => l = [.int .i64 b] ∧ -9223372036854775808 ≤ b ∧ b ≤ 9223372036854775807) ht hc (fun n l y hy => by
    obtain ⟨b, hb, _, hw⟩ := DataW.trod_int he hy
    exact ⟨b, hb, wf_i64 hw⟩) h
  have get : ∀ i, i < xs.length → xs[i]? = some (xs.getD i 0) := fun i hi => by simp [List.getD_eq_getElem?_getD, List.getElem?_eq_getElem hi]
  refine ⟨q, c, xs, h1, h2, fun i hi => ?_, fun i => ?_⟩
  · obtain ⟨l, _, ⟨rfl, _⟩, hl⟩ := h3 i _ (get i hi)
    have := hl 0 _ rfl
    simpa using this
  · rcases Nat.lt_or_ge i xs.length with hi | hi
    · obtain ⟨l, _, ⟨_, hb⟩, _⟩ := h3 i _ (get i hi)
      exact hb
    · rw [List.getD_eq_getElem?_getD, List.getElem?_eq_none hi]
      simp
theorem tr_form {t tl te ta e8 ti : TypeId} {f f0 f1 : Field} (ht : P.underlying t = some (.struct #[f])) (hft : f.type = tl) (hfo : f.offset = 0) (hct : P.cellsOf t = 1) (hcl : P.cellsOf tl = 1)
    (hl : P.underlying tl = some (.slice te)) (hce : P.cellsOf te = 9) (hte : P.underlying te = some (.struct #[f0, f1])) (h0 : f0.type = ta) (o0 : f0.offset = 0) (h1 : f1.type = ti) (o1 : f1.offset = 8) (hta : P.underlying ta = some (.array 8 e8)) (he : P.underlying e8 = some (.int .u8)) (hc : P.cellsOf e8 = 1) (hca : P.cellsOf ta = 8) (hti : P.underlying ti = some (.int .i64)) (hci : P.cellsOf ti = 1)
    (h : DataW.trod enc P w base sp held fuel t cs = some x) : ∃ q c, ∃ ts : List Term, cs = [.slice q ts.length c] ∧ (ts.length ≤ c ∧ ts.length ≤ 9223372036854775807) ∧ Terms (hp w) q ts := by
  obtain ⟨y0, n, _, hlen, hf0⟩ := trod_struct1 ht h
  obtain ⟨q, c, ts, e1, e2, e3⟩ := tr_terms (t := tl) hl hce (fun n l y hy => tr_term hte h0 o0 h1 o1 hta he hc hca hti hci hce hy) (by rw [hft, hfo, hcl] at hf0; exact hf0)
  refine ⟨q, c, ts, ?_, e2, e3⟩
  have hlen' : cs.length = 1 := hlen.trans hct
  rw [← e1, List.drop_zero, List.take_of_length_le (by omega)]
theorem tr_forms {t e : TypeId} (ht : P.underlying t = some (.slice e)) (hc : P.cellsOf e = 1) (hR : ∀ n l (y : DataW E × List MemPlace), DataW.trod enc P w base sp held n e l = some y → ∃ q c, ∃ ts : List Term, l = [.slice q ts.length c] ∧ (ts.length ≤ c ∧ ts.length ≤ 9223372036854775807) ∧ Terms (hp w) q ts)
    (h : DataW.trod enc P w base sp held fuel t cs = some x) : ∃ q c, ∃ fs : List (List Term), cs = [.slice q fs.length c] ∧ (fs.length ≤ c ∧ fs.length ≤ 9223372036854775807) ∧ Forms (hp w) q fs ∧ ∀ i, i < fs.length → (fm fs i).length ≤ 9223372036854775807 := by
  obtain ⟨q, c, fs, h1, h2, h3⟩ := tr_slice (R := fun (ts : List Term) l => ∃ q' c', l = [.slice q' ts.length c'] ∧ (ts.length ≤ c' ∧ ts.length ≤ 9223372036854775807) ∧ Terms (hp w) q' ts) ht hc (fun n l y hy => by
    obtain ⟨q', c', ts, g1, g2, g3⟩ := hR n l y hy
    exact ⟨ts, q', c', g1, g2, g3⟩) h
  have get : ∀ i, i < fs.length → fs[i]? = some (fm fs i) := fun i hi => by simp [fm, List.getD_eq_getElem?_getD, List.getElem?_eq_getElem hi]
  refine ⟨q, c, fs, h1, h2, fun i hi => ?_, fun i hi => ?_⟩
  · obtain ⟨l, _, ⟨q', c', rfl, g2, g3⟩, hl⟩ := h3 i _ (get i hi)
    have := hl 0 _ rfl
    exact ⟨q', c', by simpa using this, g2.1, g3⟩
  · obtain ⟨l, _, ⟨q', c', _, g2, _⟩, _⟩ := h3 i _ (get i hi)
    exact g2.2
end

/-! ### arguments, opened as they come -/
section
variable {E : Type} {enc : TypeId × Value → E} {P : Program} {w : World} {base b0 : Nat} {r : Reach} {sp : Nat → Bool} {held : Bool} {t : TypeId} {v : Value} {d : DataW E} {p : List MemPlace}
theorem okWide_array {n : Nat} {e : TypeId} (ht : P.underlying t = some (.array n e)) (h : Value.okWide P w r base t v) : ∃ cs, v = .agg cs := by
  simp only [Value.okWide, ht] at h
  obtain ⟨cs, h1, _⟩ := h
  exact ⟨cs, h1⟩
theorem openV_int (ht : P.underlying t = some (.int .i64)) (hv : Value.okWide P w r b0 t v) (h : DataW.Trod enc P w base sp held t v d p) : ∃ n, v = .int .i64 n ∧ -9223372036854775808 ≤ n ∧ n ≤ 9223372036854775807 := by
  obtain ⟨n, rfl, _, _, hw⟩ := open_int ht hv h
  exact ⟨n, rfl, wf_i64 hw⟩
theorem openV_bool (ht : P.underlying t = some .bool) (hv : Value.okWide P w r b0 t v) : ∃ n, v = .bool n := okWide_bool ht hv
theorem openV_ints {e : TypeId} (ht : P.underlying t = some (.slice e)) (he : P.underlying e = some (.int .i64)) (hc : P.cellsOf e = 1) (hv : Value.okWide P w r b0 t v) (h : DataW.Trod enc P w base sp held t v d p) :
    ∃ q xs c, v = .slice q xs.length c ∧ Ints (hp w) q xs ∧ xs.length ≤ c ∧ ∀ i, -9223372036854775808 ≤ xs.getD i 0 ∧ xs.getD i 0 ≤ 9223372036854775807 := by
  obtain ⟨a, len, cap, rfl⟩ := okWide_slice ht hv
  obtain ⟨fuel, hf⟩ := h
  obtain ⟨q, xs, c, h1, h2, h3, h4⟩ := tr_ints ht he hc hf
  obtain ⟨rfl, rfl, rfl⟩ : a = q ∧ len = xs.length ∧ cap = c := by simpa [Value.cells] using h1
  exact ⟨_, xs, _, rfl, h3, h2, h4⟩
theorem openV_mono {e : TypeId} (ht : P.underlying t = some (.array 8 e)) (he : P.underlying e = some (.int .u8)) (hc : P.cellsOf e = 1) (hct : P.cellsOf t = 8) (hv : Value.okWide P w r b0 t v) (h : DataW.Trod enc P w base sp held t v d p) :
    ∃ m, v = .agg (bytesC m).toArray ∧ Mono m := by
  obtain ⟨cs, rfl⟩ := okWide_array ht hv
  obtain ⟨fuel, hf⟩ := h
  obtain ⟨m, h1, h2⟩ := tr_bytes8 ht he hc hct hf
  refine ⟨m, ?_, h2⟩
  rw [← h1]
  rfl
theorem openV_form {tl te ta e8 ti : TypeId} {f f0 f1 : Field} (ht : P.underlying t = some (.struct #[f])) (hft : f.type = tl) (hfo : f.offset = 0) (hct : P.cellsOf t = 1) (hcl : P.cellsOf tl = 1)
    (hl : P.underlying tl = some (.slice te)) (hce : P.cellsOf te = 9) (hte : P.underlying te = some (.struct #[f0, f1])) (h0 : f0.type = ta) (o0 : f0.offset = 0) (h1 : f1.type = ti) (o1 : f1.offset = 8) (hta : P.underlying ta = some (.array 8 e8)) (he : P.underlying e8 = some (.int .u8)) (hc : P.cellsOf e8 = 1) (hca : P.cellsOf ta = 8) (hti : P.underlying ti = some (.int .i64)) (hci : P.cellsOf ti = 1)
    (hv : Value.okWide P w r b0 t v) (h : DataW.Trod enc P w base sp held t v d p) : ∃ q c, ∃ ts : List Term, v = .agg [.slice q ts.length c].toArray ∧ Terms (hp w) q ts ∧ ts.length ≤ 9223372036854775807 := by
  obtain ⟨cs, rfl, _⟩ := okWide_struct ht hv
  obtain ⟨fuel, hf⟩ := h
  obtain ⟨y0, n, _, hlen, hf0⟩ := trod_struct1 ht hf
  obtain ⟨q, c, ts, e1, e2, e3⟩ := tr_terms (t := tl) hl hce (fun n l y hy => tr_term hte h0 o0 h1 o1 hta he hc hca hti hci hce hy) (by rw [hft, hfo, hcl] at hf0; exact hf0)
  refine ⟨q, c, ts, ?_, e3, e2.2⟩
  have hlen' : (Value.cells (.agg cs)).toList.length = 1 := hlen.trans hct
  have : (Value.cells (.agg cs)).toList = [.slice q ts.length c] := by
    rw [← e1, List.drop_zero, List.take_of_length_le (by omega)]
  exact congrArg Value.agg (Array.toList_inj.1 this)
theorem openV_alg {td te tl tf : TypeId} {f0 f1 : Field} (ht : P.underlying t = some (.struct #[f0, f1])) (h0 : f0.type = td) (o0 : f0.offset = 0) (h1 : f1.type = tl) (o1 : f1.offset = 1) (hct : P.cellsOf t = 2) (hcd : P.cellsOf td = 1) (hcl : P.cellsOf tl = 1)
    (hd : P.underlying td = some (.slice te)) (he : P.underlying te = some (.int .i64)) (hce : P.cellsOf te = 1) (hl : P.underlying tl = some (.slice tf)) (hcf : P.cellsOf tf = 1)
    (hR : ∀ n l (y : DataW E × List MemPlace), DataW.trod enc P w base sp held n tf l = some y → ∃ q c, ∃ ts : List Term, l = [.slice q ts.length c] ∧ (ts.length ≤ c ∧ ts.length ≤ 9223372036854775807) ∧ Terms (hp w) q ts)
    (hv : Value.okWide P w r b0 t v) (h : DataW.Trod enc P w base sp held t v d p) : ∃ qd cd, ∃ ds : List Int, ∃ qf cf, ∃ fs : List (List Term), v = .agg [.slice qd ds.length cd, .slice qf fs.length cf].toArray ∧ Ints (hp w) qd ds ∧ Forms (hp w) qf fs ∧ (ds.length ≤ 9223372036854775807 ∧ fs.length ≤ 9223372036854775807) ∧ ∀ i, i < fs.length → (fm fs i).length ≤ 9223372036854775807 := by
  obtain ⟨cs, rfl, _⟩ := okWide_struct ht hv
  obtain ⟨fuel, hf⟩ := h
  obtain ⟨y0, y1, n, _, hlen, hf0, hf1⟩ := trod_struct2 ht hf
  rw [h0, o0, hcd, List.drop_zero] at hf0
  rw [h1, o1, hcl] at hf1
  have hlen' : (Value.cells (.agg cs)).toList.length = 2 := hlen.trans hct
  obtain ⟨qd, cd, ds, a1, a2, a3, _⟩ := tr_ints2 hd he hce hf0
  obtain ⟨qf, cf, fs, b1, b2, b3, b4⟩ := tr_forms hl hcf hR hf1
  refine ⟨qd, cd, ds, qf, cf, fs, ?_, a3, b3, ⟨a2.2, b2.2⟩, b4⟩
  have hd1 : ((Value.cells (.agg cs)).toList.drop 1).take 1 = (Value.cells (.agg cs)).toList.drop 1 := List.take_of_length_le (by simp only [List.length_drop]; omega)
  rw [hd1] at b1
  have : (Value.cells (.agg cs)).toList = [.slice qd ds.length cd, .slice qf fs.length cf] := by
    rw [← List.take_append_drop 1 (Value.cells (.agg cs)).toList, a1, b1]
    rfl
  exact congrArg Value.agg (Array.toList_inj.1 this)
theorem openV_forms {e : TypeId} (ht : P.underlying t = some (.slice e)) (hc : P.cellsOf e = 1)
    (hR : ∀ n l (y : DataW E × List MemPlace), DataW.trod enc P w base sp held n e l = some y → ∃ q c, ∃ ts : List Term, l = [.slice q ts.length c] ∧ (ts.length ≤ c ∧ ts.length ≤ 9223372036854775807) ∧ Terms (hp w) q ts)
    (hv : Value.okWide P w r b0 t v) (h : DataW.Trod enc P w base sp held t v d p) : ∃ q c, ∃ fs : List (List Term), v = .slice q fs.length c ∧ Forms (hp w) q fs ∧ fs.length ≤ 9223372036854775807 ∧ ∀ i, i < fs.length → (fm fs i).length ≤ 9223372036854775807 := by
  obtain ⟨a, len, cap, rfl⟩ := okWide_slice ht hv
  obtain ⟨fuel, hf⟩ := h
  obtain ⟨q, c, fs, h1, h2, h3, h4⟩ := tr_forms ht hc hR hf
  obtain ⟨rfl, rfl, rfl⟩ : a = q ∧ len = fs.length ∧ cap = c := by simpa [Value.cells] using h1
  exact ⟨_, _, fs, rfl, h3, h2.2, h4⟩
end

/-! ### behind the call -/
section
variable {E : Type} {enc : TypeId × Value → E} {P : Program}
theorem trodAll_below (hl : laidOutB P = true) {W W' : World} (hb : Below W.heap.size W W') : ∀ {ts : List TypeId} {vs : List Value} {ds : List (DataW E)} {ps : List MemPlace}, (ts.all fun t => P.readableRec t && decide (t < P.types.size)) = true → (∀ x ∈ ps, x.block < W.heap.size) →
    DataW.TrodAll enc P W 0 (fun _ => true) true ts vs ds ps → DataW.TrodAll enc P W' 0 (fun b => decide (b < W.heap.size)) true ts vs ds ps
  | [], [], [], _, _, _, h => h
  | t :: ts, v :: vs, d :: ds, ps, ht, hlt, h => by
    simp only [List.all_cons, Bool.and_eq_true] at ht
    obtain ⟨p, q, h1, h2, rfl⟩ := h
    exact ⟨p, q, Below.trod hl ht.1.1 (by simpa using ht.1.2) h1 hb (fun x hx => hlt x (by simp [hx])), trodAll_below hl hb ht.2 (fun x hx => hlt x (by simp [hx])) h2, rfl⟩
  | [], [], _ :: _, _, _, _, h => h.elim
  | [], _ :: _, _, _, _, _, h => by cases ‹List (DataW E)› <;> exact h.elim
  | _ :: _, [], _, _, _, _, h => by cases ‹List (DataW E)› <;> exact h.elim
  | _ :: _, _ :: _, [], _, _, _, h => h.elim
/-- What a law's row says behind the call. -/
theorem law_post {f : Func} {s : ChangeSpec} {W W' : World} {args : Array Value} {ds : List (DataW E)} {ps : List MemPlace} (hl : laidOutB P = true) (hts : (f.params.toList.all fun t => P.readableRec t && decide (t < P.types.size)) = true)
    (hv : s.vars = []) (hres : f.resultTypes = #[4]) (h4 : P.underlying 4 = some .bool) (hspec : s.fn E ds = { results := [.lit (.bool true)], args := ds })
    (hW : DataW.Whole enc P f.params.toList s.vars false W args.toList ds [] ps) (hb : Below W.heap.size W W') : s.post enc P f false true false false W args (.bool true) W' := by
  have hlt := hW.lt
  have hW2 := hW
  obtain ⟨p, q, h1, h2, rfl, _⟩ := hW2
  rw [hv] at h2
  have hq : q = [] := h2
  subst hq
  refine ⟨ds, [], _, [], p, [], hW, ?_, ?_, ?_, hb.frame _, fun h => by cases h⟩
  · rw [List.append_nil, hspec, hres]
    exact trodAll_mk1 (shut_bool h4 true)
  · rw [List.append_nil, hspec]
    exact trodAll_below hl hb hts (fun x hx => hlt x (by simp [hx])) h1
  · rw [List.append_nil, hspec, hv]
    rfl
end
end Go.Proofs.YtbjhllmcnfncdaaDoor.G
