/- Rows of forms that are owned, each with its terms; what the laws write into them. No condition. -/
import Derived.Test.YtbjhllmcnfncdaaDoorGLend
import Derived.Deep.Upon
namespace Go.Proofs.YtbjhllmcnfncdaaDoor.G
open Go Go.RowKit

def emp : SA := ⟨fun _ => False, fun _ => True, fun _ _ _ _ => trivial⟩
/-- both, apart from each other -/
def star (A C : SA) : SA where
  fp := fun b => A.fp b ∨ C.fp b
  holds := fun h => A.holds h ∧ C.holds h ∧ ∀ b, A.fp b → ¬ C.fp b
  loc := fun h h' hb hh => ⟨A.loc h h' (fun b hA => hb b (.inl hA)) hh.1, C.loc h h' (fun b hC => hb b (.inr hC)) hh.2.1, hh.2.2⟩
section
variable {P : Program} {ops : Array Oper} {Q : Exit → Act → World → Prop} {n : Nat} {B : World} {H0 H : HP} {rest : List Oper} {us : List (Nat × Value)} {L L' : List SA} {t : TypeId} {p : String} {af : Array Edge} {d : Nat} {x y : Operand}
theorem Hp.emp {w : World} (h : Hp B H0 H L w) : Hp B H0 H (emp :: L) w :=
  ⟨h.below, h.agree, h.old, h.le, fun X hX => by
    rcases List.mem_cons.1 hX with rfl | hX
    · exact ⟨trivial, fun b hb => hb.elim⟩
    · exact h.objs X hX, List.pairwise_cons.2 ⟨fun _ _ _ hb => hb.elim, h.sep⟩⟩
theorem Hp.star {A C : SA} {w : World} (h : Hp B H0 H (A :: C :: L) w) : Hp B H0 H (star A C :: L) w := by
  have hA := h.objs A (by simp)
  have hC := h.objs C (by simp)
  have s := List.pairwise_cons.1 h.sep
  have s2 := List.pairwise_cons.1 s.2
  refine ⟨h.below, h.agree, h.old, h.le, fun X hX => ?_, List.pairwise_cons.2 ⟨fun X hX b hb hXb => ?_, s2.2⟩⟩
  · rcases List.mem_cons.1 hX with rfl | hX
    · exact ⟨⟨hA.1, hC.1, s.1 C (by simp)⟩, fun b hb => hb.elim (hA.2 b) (hC.2 b)⟩
    · exact h.objs X (by simp [hX])
  · rcases hb with hb | hb
    · exact s.1 X (by simp [hX]) b hb hXb
    · exact s2.1 X hX b hb hXb
theorem Hp.unstar {A C : SA} {w : World} (h : Hp B H0 H (G.star A C :: L) w) : Hp B H0 H (A :: C :: L) w := by
  obtain ⟨⟨h1, h2, h3⟩, hfp⟩ := h.objs (G.star A C) (by simp)
  have s := List.pairwise_cons.1 h.sep
  refine ⟨h.below, h.agree, h.old, h.le, fun X hX => ?_, List.pairwise_cons.2 ⟨fun X hX b hb hXb => ?_, List.pairwise_cons.2 ⟨fun X hX b hb hXb => s.1 X hX b (.inr hb) hXb, s.2⟩⟩⟩
  · rcases List.mem_cons.1 hX with rfl | hX
    · exact ⟨h1, fun b hb => hfp b (.inl hb)⟩
    · rcases List.mem_cons.1 hX with rfl | hX
      · exact ⟨h2, fun b hb => hfp b (.inr hb)⟩
      · exact h.objs X (by simp [hX])
  · rcases List.mem_cons.1 hX with rfl | hX
    · exact h3 b hb hXb
    · exact s.1 X hX b (.inl hb) hXb
theorem PR.idxB {ty e : TypeId} {k : IntKind} {g o m : Nat} {i : Int} {i' : Nat} (hu : P.underlying ty = some (.array m e)) (hs : Size P e 1) (hx : opv us x = some (.pointer (some ⟨g, o, none⟩))) (hy : opv us y = some (.int k i)) (hi : i = (i' : Int)) (hl : i' < m) :
    PR P n B H0 us H L (.indexAddr ty x y) t (.pointer (some ⟨g, o + i', none⟩)) := by
  have := PR.idxA (P := P) (n := n) (B := B) (H0 := H0) (H := H) (L := L) (t := t) hu hs hx hy hi hl
  rwa [Nat.mul_one] at this
/-- a cell of a row that is owned -/
theorem PR.loadO {ty e : TypeId} {q : Option Addr} {sz m c k : Nat} {cells : List Value} {v : Value} (hx : opv us x = some (ptr q k)) (hat : At L (own e sz q m c cells) (own e sz q m c cells) L) (hc : cells[k]? = some v) (hp : Plain P ty) : PR P n B H0 us H L (.load ty x) t v :=
  fun c' w' d' b' a w hF hH => by
    have h1 := own_reads (hH.objs _ hat.mem).1 k v hc
    exact PR.loadH (H := G.hp w) (L := []) (B := w) (H0 := G.hp w) hx h1 hp c' w' d' b' a w hF (Hp.start fun _ _ h => h)
/-- append(s, t...): all of t -/
theorem J.appendH {ty e : TypeId} {q qt : Option Addr} {m c k ct bytes : Nat} {cells ds z : List Value} (hu : P.underlying ty = some (.slice e)) (hz : Zero P e z) (hs : Size P e z.length) (hb : Bytes P e bytes) (hz0 : Nat.blt 0 z.length = true)
    (hx : opv us x = some (.slice q m c)) (hy : opv us y = some (.slice qt k ct)) (hl : ds.length = k * z.length) (hr : ∀ j v, ds[j]? = some v → cellO H qt j = some v) (h1 : ∀ u ∈ ds, u.oneCell' = true) (hm : (m + k) * bytes ≤ 140737488355328) (hm' : m + k ≤ maxLen)
    (hat : At L (own e z.length q m c cells) (own e z.length q m c cells) L) {L' : Option Addr → Nat → List SA} (hat' : ∀ q' c', At L (own e z.length q m c cells) (own e z.length q' (m + k) c' (cells ++ ds)) (L' q' c')) (hd : Nat.blt d n = true)
    (hk : ∀ q' c', J P ops Q n B H0 rest ((d, .slice q' (m + k) c') :: us) H (L' q' c')) :
    J P ops Q n B H0 (⟨some d, .call { callee := .builtin .append, args := #[x, y], argTypes := #[ty, ty] }, t, p, af, none⟩ :: rest) us H L := by
  refine J.val hd fun a w hF hH => ?_
  obtain ⟨i, z', hq, hiz, hzc, his, hib⟩ := info_of hz hs hb
  have hz0' := Nat.le_of_ble_eq_true hz0
  have hrow := own_row hH hat
  cases qt with
  | none =>
    have hd0 : ds = [] := by
      cases ds with
      | nil => rfl
      | cons u ds => have := hr 0 u rfl; simp [cellO] at this
    subst hd0
    have hk0 : k = 0 := by
      rcases Nat.eq_zero_or_pos k with h | h
      · exact h
      · have := Nat.mul_pos h hz0'; simp at hl; omega
    subst hk0
    have hle : m ≤ c := by
      obtain ⟨⟨_, h2⟩, _⟩ := hH.objs _ hat.mem
      rcases h2 with ⟨_, rfl, rfl⟩ | ⟨_, _, _, _, h3, _⟩
      · exact Nat.le_refl _
      · exact h3
    have hsrc : Src P i.size ty (.slice none 0 ct) 0 [] w := ⟨.inl ⟨e, hu⟩, fun _ => rfl, by simp [Builtin.firstCells], by simp [Builtin.firstCells], by simp, by simp⟩
    have hrun := run_append_nothing (P := P) w ty ty t e i hu hq q m c hle (.slice none 0 ct) hsrc
    refine ⟨_, w, ?_, fun a' hF' => hk q c a' w hF' ?_⟩
    · simp [execOp, resolve, invoke, builtin, hF.ev hx, hF.ev hy, hrun]
    · have := hat' q c
      rw [List.append_nil] at this
      exact hH.reAt this (hH.objs _ hat.mem).1 (fun b hb => hb)
  | some qa =>
    have hnews : ∀ j u, ds[j]? = some u → w.cell? (qa.add j) = some u := fun j u hj => by
      have := hr j u hj
      exact cellH_w hH.agree this
    obtain ⟨v', w', hrun, how, hgr, _, hob⟩ := run_append_own_at (P := P) w B.heap.size ty t e i z' z.length bytes hu hq hiz his hib (by rw [hzc]; simp) hz0' (.slice q m c) m cells hrow qa k ct ds hl hnews h1 hm' hm hH.below.size
    obtain ⟨q', c', rfl, hho, hfp⟩ := own_slice how
    refine ⟨_, w', ?_, fun a' hF' => hk q' c' a' w' hF' ?_⟩
    · simp [execOp, resolve, invoke, builtin, hF.ev hx, hF.ev hy, hrun]
    · refine hH.upd (hat' q' c') (A' := own e z.length q' (m + k) c' (cells ++ ds)) ?_ hho (fun b hb => ?_)
      · have := grown_chg hgr
        refine ⟨this.os, this.tape, this.output, this.size, fun b hb hn => this.same b hb (fun e => hn ?_)⟩
        cases q with
        | none => simp [Value.ownBlock] at e
        | some p => simp [Value.ownBlock] at e; exact ⟨p, rfl, e⟩
      · have hv := (hfp b).1 hb
        have hlt := World.ownsRow.lt how b hv
        refine ⟨?_, hlt.2⟩
        rcases Nat.lt_or_ge b w.heap.size with h | h
        · left
          rcases hob with hob | hob
          · rw [hv] at hob
            cases q with
            | none => simp [Value.ownBlock] at hob
            | some p => simp [Value.ownBlock] at hob; exact ⟨p, rfl, hob.symm⟩
          · rw [hv] at hob
            injection hob with hob
            omega
        · exact .inr h
end

/-! ### forms in line, each with its own terms -/
/-- where the rows of terms lie -/
abbrev Vs := Nat → Option Addr × Nat
def Vs.tl (vs : Vs) : Vs := fun i => vs (i + 1)
def slicesC (vs : Vs) : List (List Term) → List Value
  | [] => []
  | f :: fs => .slice (vs 0).1 f.length (vs 0).2 :: slicesC vs.tl fs
def ownTs (T : TypeId) (vs : Vs) : List (List Term) → SA
  | [] => emp
  | f :: fs => star (own T 9 (vs 0).1 f.length (vs 0).2 (tsC f)) (ownTs T vs.tl fs)
/-- a row of forms, with all that it reaches -/
def ownFs (E T : TypeId) (q : Option Addr) (c : Nat) (vs : Vs) (fs : List (List Term)) : SA := star (own E 1 q fs.length c (slicesC vs fs)) (ownTs T vs fs)
@[simp] theorem slicesC_length : ∀ (vs : Vs) (fs : List (List Term)), (slicesC vs fs).length = fs.length
  | _, [] => rfl
  | vs, f :: fs => by simp [slicesC, slicesC_length]
theorem slicesC_get : ∀ {vs : Vs} {fs : List (List Term)} {i : Nat}, i < fs.length → (slicesC vs fs)[i]? = some (.slice (vs i).1 (fm fs i).length (vs i).2)
  | _, [], i, h => by simp at h
  | vs, f :: fs, 0, _ => rfl
  | vs, f :: fs, i + 1, h => by
    have := slicesC_get (vs := vs.tl) (fs := fs) (i := i) (by simpa using h)
    simpa [slicesC, Vs.tl, fm] using this
theorem ownTs_get {T : TypeId} {h : HP} : ∀ {vs : Vs} {fs : List (List Term)} {i : Nat}, (ownTs T vs fs).holds h → i < fs.length → (own T 9 (vs i).1 (fm fs i).length (vs i).2 (tsC (fm fs i))).holds h
  | _, [], i, _, hi => by simp at hi
  | vs, f :: fs, 0, hh, _ => hh.1
  | vs, f :: fs, i + 1, hh, hi => ownTs_get (vs := vs.tl) (fs := fs) hh.2.1 (by simpa using hi)
theorem own_le {e : TypeId} {sz m c : Nat} {q : Option Addr} {cells : List Value} {h : HP} (hh : (own e sz q m c cells).holds h) : m ≤ c := by
  rcases hh.2 with ⟨_, rfl, rfl⟩ | ⟨_, _, _, _, h3, _⟩
  · exact Nat.le_refl _
  · exact h3
def Wfss (fs : List (List Term)) : Prop := ∀ f, f ∈ fs → Wfs f
theorem Wfss.at {fs : List (List Term)} (h : Wfss fs) {i : Nat} (hi : i < fs.length) : Wfs (fm fs i) := by
  have : fm fs i = fs[i] := by simp [fm, List.getD_eq_getElem?_getD, List.getElem?_eq_getElem hi]
  rw [this]
  exact h _ (List.getElem_mem hi)
theorem Wfss.nils (m : Nat) : Wfss (List.replicate m []) := fun f hf => by
  obtain ⟨_, rfl⟩ := List.mem_replicate.1 hf
  exact fun t ht => by simp at ht
theorem own_forms {E T : TypeId} {q : Option Addr} {c : Nat} {vs : Vs} {fs : List (List Term)} {h : HP} (hw : Wfss fs) (hh : (ownFs E T q c vs fs).holds h) : Forms h q fs := fun i hi => by
  have h1 := own_reads hh.1 i _ (slicesC_get hi)
  have h2 := ownTs_get hh.2.1 hi
  exact ⟨_, _, h1, own_le h2, own_terms (hw.at hi) h2⟩
theorem Forms.wfss {H : HP} {q : Option Addr} {fs : List (List Term)} (h : Forms H q fs) : Wfss fs := fun f hf => by
  obtain ⟨i, hi, rfl⟩ := List.mem_iff_getElem.1 hf
  obtain ⟨_, _, _, _, h3⟩ := h i hi
  have : fm fs i = fs[i] := by simp [fm, List.getD_eq_getElem?_getD, List.getElem?_eq_getElem hi]
  rw [← this]
  exact h3.wfs
theorem forms_eq_of {xs ys : List (List Term)} (hl : (xs.length : Int) = ys.length) (h : ∀ j, j < xs.length → fm xs j = fm ys j) : xs = ys := by
  apply List.ext_getElem (by omega)
  intro j h1 h2
  have := h j h1
  rwa [fm, fm, List.getD_eq_getElem?_getD, List.getD_eq_getElem?_getD, List.getElem?_eq_getElem h1, List.getElem?_eq_getElem h2] at this
/-- no terms anywhere -/
def nilVs : Vs := fun _ => (none, 0)
theorem slicesC_nil : ∀ m, slicesC nilVs (List.replicate m []) = List.replicate m (.slice none 0 0)
  | 0 => rfl
  | m + 1 => by
    rw [List.replicate_succ, List.replicate_succ, ← slicesC_nil m]
    rfl
section
variable {B : World} {H0 H : HP} {L : List SA} {w : World}
theorem Hp.ownTs0 (T : TypeId) (h : Hp B H0 H L w) : ∀ m, Hp B H0 H (ownTs T nilVs (List.replicate m []) :: L) w
  | 0 => h.emp
  | m + 1 => by
    have h1 := ((h.ownTs0 T m).own0 T 9).star
    exact h1
theorem Hp.ownFs0 {E : TypeId} (T : TypeId) {q : Option Addr} {c m : Nat} (h : Hp B H0 H (own E 1 q m c (List.replicate m (.slice none 0 0)) :: L) w) : Hp B H0 H (ownFs E T q c nilVs (List.replicate m []) :: L) w := by
  have h1 : Hp B H0 H (ownTs T nilVs (List.replicate m []) :: own E 1 q m c (List.replicate m (.slice none 0 0)) :: L) w := h.ownTs0 T m
  have h2 := (h1.front (.s .z)).star
  unfold ownFs
  rw [slicesC_nil, List.length_replicate]
  exact h2
theorem Hp.ownFsNil (E T : TypeId) (h : Hp B H0 H L w) : Hp B H0 H (ownFs E T none 0 nilVs [] :: L) w := (h.own0 E 1).ownFs0 (m := 0) T
end
def Vs.dr (vs : Vs) (i : Nat) : Vs := fun j => vs (j + i)
theorem ownTs_drop {T : TypeId} {vs : Vs} {fs : List (List Term)} {i : Nat} (hi : i < fs.length) :
    ownTs T (vs.dr i) (fs.drop i) = star (own T 9 (vs i).1 (fm fs i).length (vs i).2 (tsC (fm fs i))) (ownTs T (vs.dr (i + 1)) (fs.drop (i + 1))) := by
  have e1 : fs.drop i = fm fs i :: fs.drop (i + 1) := by
    rw [List.drop_eq_getElem_cons hi]
    simp [fm, List.getD_eq_getElem?_getD, List.getElem?_eq_getElem hi]
  have e2 : (vs.dr i).tl = vs.dr (i + 1) := by
    funext j
    simp only [Vs.tl, Vs.dr]
    congr 1
    omega
  rw [e1]
  simp only [ownTs]
  rw [e2]
  simp [Vs.dr]
section
variable {B : World} {H0 H : HP} {w : World}
theorem Hp.fsIn {L : List SA} {T : TypeId} {vs : Vs} {fs : List (List Term)} {i : Nat} (h : Hp B H0 H (ownTs T (vs.dr i) (fs.drop i) :: L) w) (hi : i < fs.length) :
    Hp B H0 H (own T 9 (vs i).1 (fm fs i).length (vs i).2 (tsC (fm fs i)) :: ownTs T (vs.dr (i + 1)) (fs.drop (i + 1)) :: L) w := by
  rw [ownTs_drop hi] at h
  exact h.unstar
theorem Hp.fsOut {T : TypeId} {f : List Term} : ∀ {L : List SA} {vs : Vs} {gs : List (List Term)}, Hp B H0 H (own T 9 (vs gs.length).1 f.length (vs gs.length).2 (tsC f) :: ownTs T vs gs :: L) w → Hp B H0 H (ownTs T vs (gs ++ [f]) :: L) w
  | L, vs, [], h => by
    have h1 : Hp B H0 H (own T 9 (vs 0).1 f.length (vs 0).2 (tsC f) :: L) w := (h.front (.s .z)).tail
    have h2 := (h1.emp.front (.s .z)).star
    exact h2
  | L, vs, g :: gs, h => by
    have h1 : Hp B H0 H (G.star (own T 9 (vs 0).1 g.length (vs 0).2 (tsC g)) (ownTs T vs.tl gs) :: own T 9 (vs.tl gs.length).1 f.length (vs.tl gs.length).2 (tsC f) :: L) w := h.front (.s .z)
    have h2 := h1.unstar
    have h3 : Hp B H0 H (own T 9 (vs.tl gs.length).1 f.length (vs.tl gs.length).2 (tsC f) :: ownTs T vs.tl gs :: own T 9 (vs 0).1 g.length (vs 0).2 (tsC g) :: L) w := (h2.front (.s .z)).front (.s (.s .z))
    have h4 := Hp.fsOut (vs := vs.tl) (gs := gs) h3
    have h5 := (h4.front (.s .z)).star
    exact h5
end
/-- what a law writes into forms -/
def marksFs : Int → List (List Term) → List (List Term)
  | _, [] => []
  | k, f :: fs => marksT k f.length :: marksFs (k + 9 * (f.length : Nat)) fs
def tot : List (List Term) → Nat
  | [] => 0
  | f :: fs => f.length + tot fs
theorem tot_app : ∀ (a b : List (List Term)), tot (a ++ b) = tot a + tot b
  | [], b => by simp [tot]
  | f :: a, b => by simp [tot, tot_app a b]; omega
theorem marksFs_app : ∀ (k : Int) (a b : List (List Term)), marksFs k (a ++ b) = marksFs k a ++ marksFs (k + 9 * (tot a : Nat)) b
  | k, [], b => by simp [marksFs, tot]
  | k, f :: a, b => by
    simp only [List.cons_append, marksFs, tot]
    rw [marksFs_app]
    congr 2
    congr 1
    omega
theorem tot_succ {fs : List (List Term)} {i : Nat} (hi : i < fs.length) : tot (fs.take (i + 1)) = tot (fs.take i) + (fm fs i).length := by
  rw [List.take_succ_eq_append_getElem hi, tot_app]
  simp [tot, fm, List.getD_eq_getElem?_getD, List.getElem?_eq_getElem hi]
theorem marksFs_succ {k : Int} {fs : List (List Term)} {i : Nat} (hi : i < fs.length) : marksFs k (fs.take (i + 1)) = marksFs k (fs.take i) ++ [marksT (k + 9 * (tot (fs.take i) : Nat)) (fm fs i).length] := by
  rw [List.take_succ_eq_append_getElem hi, marksFs_app]
  simp [marksFs, fm, List.getD_eq_getElem?_getD, List.getElem?_eq_getElem hi]
@[simp] theorem marksFs_length : ∀ (k : Int) (fs : List (List Term)), (marksFs k fs).length = fs.length
  | _, [] => rfl
  | k, f :: fs => by simp [marksFs, marksFs_length]
theorem slicesC_marks : ∀ (vs : Vs) (k : Int) (fs : List (List Term)), slicesC vs (marksFs k fs) = slicesC vs fs
  | _, _, [] => rfl
  | vs, k, f :: fs => by simp [slicesC, marksFs, slicesC_marks]
/-- forms that a law has written -/
def MForms (H : HP) (q : Option Addr) (k : Int) (fs : List (List Term)) : Prop := ∀ i, i < fs.length → ∃ q' c', cellO H q i = some (.slice q' (fm fs i).length c') ∧ MTerms H q' (k + 9 * (tot (fs.take i) : Nat)) (fm fs i).length
theorem MForms.sm {H : HP} {q : Option Addr} {k : Int} {fs : List (List Term)} (h : MForms H q k fs) {i : Nat} (hi : i < fs.length) : q.isSome = true := by
  obtain ⟨_, _, h1, _⟩ := h i hi
  exact cellO_some h1
theorem MForms.le {H H' : HP} {q : Option Addr} {k : Int} {fs : List (List Term)} (h : MForms H q k fs) (hle : Le H H') : MForms H' q k fs := fun i hi => by
  obtain ⟨q', c', h1, h2⟩ := h i hi
  exact ⟨q', c', cellO_le hle h1, h2.le hle⟩
theorem marksFs_get : ∀ {k : Int} {fs : List (List Term)} {i : Nat}, i < fs.length → fm (marksFs k fs) i = marksT (k + 9 * (tot (fs.take i) : Nat)) (fm fs i).length
  | _, [], i, h => by simp at h
  | k, f :: fs, 0, _ => by simp [marksFs, fm, tot]
  | k, f :: fs, i + 1, h => by
    have := marksFs_get (k := k + 9 * (f.length : Nat)) (fs := fs) (i := i) (by simpa using h)
    simp only [marksFs, fm, List.getD_cons_succ, List.take_succ_cons, tot] at this ⊢
    rw [this]
    congr 1
    omega
theorem tot_take_le {fs : List (List Term)} : ∀ {i : Nat}, i < fs.length → tot (fs.take i) + (fm fs i).length ≤ tot fs := by
  induction fs with
  | nil => intro i h; simp at h
  | cons f fs ih =>
    intro i h
    cases i with
    | zero => simp [tot, fm]
    | succ i =>
      have := ih (i := i) (by simpa using h)
      simp only [List.take_succ_cons, tot, fm, List.getD_cons_succ] at this ⊢
      omega
theorem own_mforms {E T : TypeId} {q : Option Addr} {c : Nat} {vs : Vs} {k : Int} {fs : List (List Term)} {h : HP} (hk : 0 ≤ k ∧ k + 9 * (tot fs : Nat) ≤ 9223372036854775807) (hh : (ownFs E T q c vs (marksFs k fs)).holds h) : MForms h q k fs := fun i hi => by
  have hi' : i < (marksFs k fs).length := by simpa using hi
  have h1 := own_reads hh.1 i _ (slicesC_get hi')
  have h2 := ownTs_get hh.2.1 hi'
  have h3 := tot_take_le hi
  rw [marksFs_get hi] at h1 h2
  rw [marksT_length] at h1 h2
  exact ⟨_, _, h1, own_mterms (by omega) h2⟩
end Go.Proofs.YtbjhllmcnfncdaaDoor.G
