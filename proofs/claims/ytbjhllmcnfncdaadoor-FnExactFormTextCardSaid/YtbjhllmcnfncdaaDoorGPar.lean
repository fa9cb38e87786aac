/- A region whose order is open, and whose first operations each make something of their own: whatever the order, they come to the same. No condition. -/
import Derived.Test.YtbjhllmcnfncdaaDoorGData
import Derived.StillTail
namespace Go.Proofs.YtbjhllmcnfncdaaDoor.G
open Go Go.RowKit

section
variable {P : Program} {ops : Array Oper} {Q : Exit → Act → World → Prop} {md : Region.Mode}

/-- how many of the first k are still to come -/
def left (listed : Array Bool) : Nat → Nat
  | 0 => 0
  | k + 1 => left listed k + (bif listed.getD k true then 0 else 1)
theorem left_set {listed : Array Bool} {i : Nat} (hi : listed.getD i true = false) : ∀ k, left (listed.setIfInBounds i true) k + (if i < k then 1 else 0) = left listed k
  | 0 => by simp [left]
  | k + 1 => by
    have ih := left_set hi k
    simp only [left]
    by_cases h : i = k
    · subst h
      have hs : i < listed.size := by
        rcases Nat.lt_or_ge i listed.size with h | h
        · exact h
        · simp [Array.getElem?_eq_none h] at hi
      rw [if_neg (by omega)] at ih
      rw [if_pos (by omega), hi]
      have : (listed.setIfInBounds i true).getD i true = true := by simp [hs]
      rw [this]
      simp at ih ⊢
      omega
    · rw [getD_set_ne true h]
      by_cases h2 : i < k
      · rw [if_pos h2] at ih; rw [if_pos (by omega)]; omega
      · rw [if_neg h2] at ih; rw [if_neg (by omega)]; omega
theorem left_zero {listed : Array Bool} : ∀ {k : Nat}, left listed k = 0 → ∀ j, j < k → listed.getD j true = true
  | 0, _, j, hj => by omega
  | k + 1, h, j, hj => by
    simp only [left] at h
    by_cases e : j = k
    · subst e
      cases hb : listed.getD j true with
      | true => rfl
      | false => rw [hb] at h; simp at h
    · exact left_zero (k := k) (by omega) j (by omega)
/-- the least that is still to come -/
theorem left_pos {listed : Array Bool} : ∀ {k : Nat}, 0 < left listed k → ∃ i, i < k ∧ listed.getD i true = false ∧ ∀ j, j < i → listed.getD j true = true
  | 0, h => by simp [left] at h
  | k + 1, h => by
    rcases Nat.eq_zero_or_pos (left listed k) with h0 | h0
    · refine ⟨k, by omega, ?_, left_zero h0⟩
      cases hb : listed.getD k true with
      | false => rfl
      | true => simp [left, h0, hb] at h
    · obtain ⟨i, h1, h2, h3⟩ := left_pos h0
      exact ⟨i, by omega, h2, h3⟩

def canon (n m : Nat) : Array Bool := (List.replicate n true ++ List.replicate (m - n) false).toArray
/-- Edges lead backwards; all of the first n come before the others, which come in order. -/
def parB (md : Region.Mode) (ops : Array Oper) (n : Nat) : Bool :=
  decide (n < ops.size) && Region.sinkB md ops n && Region.chainB md ops n && Region.seqB md ops (ops.size - n) n (canon n ops.size) &&
    (List.range n).all fun i => ((ops[i]?).map fun o => o.after.all fun e => decide (e.on < i)).getD true

theorem canon_of {n : Nat} {listed : Array Bool} (inv : HeadInv md ops n listed) (hn : n < ops.size) (h : ∀ j, j < n → listed.getD j true = true) : listed = canon n ops.size := by
  apply Array.ext'
  apply List.ext_getElem?
  intro j
  have hsz := inv.size
  rcases Nat.lt_or_ge j ops.size with hj | hj
  · have hjl : j < listed.size := by omega
    rcases Nat.lt_or_ge j n with hjn | hjn
    · have := h j hjn
      simp [hjl] at this
      simp [canon, List.getElem?_append_left, hjn, hjl, this]
    · have := inv.tail j hjn hj
      simp [hjl] at this
      simp only [canon, List.toList_toArray]
      rw [List.getElem?_append_right (by simp; omega), List.getElem?_replicate, if_pos (by simp; omega)]
      simp [hjl, this]
  · rw [List.getElem?_eq_none (by simp; omega), List.getElem?_eq_none (by simp [canon]; omega)]

theorem wpAny_par {n : Nat} (hB : parB md ops n = true) (Inv : Array Bool → Act → World → Prop)
    (step : ∀ listed a w i, HeadInv md ops n listed → Inv listed a w → i ∈ Region.ready md ops listed → i < n → wpOp P ops Q i (Inv (listed.setIfInBounds i true)) a w)
    (fin : ∀ a w, Inv (canon n ops.size) a w → wpList P ops Q (ops.toList.drop n) a w) :
    ∀ (f : Nat) (listed : Array Bool) (a : Act) (w : World), HeadInv md ops n listed → left listed n = f → Inv listed a w → wpAny P md ops Q (f + (ops.size - n)) listed a w := by
  simp only [parB, Bool.and_eq_true, decide_eq_true_eq] at hB
  obtain ⟨⟨⟨⟨hn, hs⟩, hc⟩, hq⟩, hfw⟩ := hB
  intro f
  induction f with
  | zero =>
    intro listed a w inv hf hI
    have e := canon_of inv hn (left_zero hf)
    subst e
    have hl : (ops.toList.drop n).length = ops.size - n := by simp
    have := wpAny_of_seq (md := md) (Q' := Q) (ops := ops) (ops.toList.drop n) n (canon n ops.size) a w (fun j => by simp [List.getElem?_drop]) (by rw [hl]; exact hq) (fin a w hI)
    rw [hl] at this
    rw [Nat.zero_add]
    exact this
  | succ f ih =>
    intro listed a w inv hf hI
    obtain ⟨i0, hi0, hun, hbef⟩ := left_pos (listed := listed) (k := n) (by omega)
    have hready : i0 ∈ Region.ready md ops listed := by
      have hi0s : i0 < ops.size := by omega
      rw [mem_ready]
      refine ⟨hun, ops[i0], by simp [hi0s], fun e he _ => ?_⟩
      have h1 := List.all_eq_true.1 hfw i0 (List.mem_range.2 hi0)
      simp only [Array.getElem?_eq_getElem hi0s, Option.map_some, Option.getD_some] at h1
      have h2 := Array.all_eq_true_iff_forall_mem.1 h1 e he
      have hlt : e.on < i0 := by simpa using h2
      have h3 := hbef e.on hlt
      have : e.on < listed.size := by have := inv.size; omega
      simp [this] at h3 ⊢
      exact h3
    rw [show f + 1 + (ops.size - n) = (f + (ops.size - n)) + 1 by omega]
    refine ⟨fun h0 => (by rw [h0] at hready; cases hready), fun i hi => ?_⟩
    have hin : i < n := by
      rcases Nat.lt_or_ge i n with h | h
      · exact h
      · exact absurd hi (tail_waits hs hc hn inv _ i0 rfl hi0 hun i h)
    have hiun := (mem_ready.1 hi).1
    have hl := left_set hiun n
    rw [if_pos hin] at hl
    exact wpOp_mono (fun a' w' h' => ih _ a' w' (inv.set hi hin) (by omega) h') (step listed a w i inv hI hi hin)
end

section
variable {P : Program} {Q : Exit → Act → World → Prop} {n : Nat} {B : World} {H0 H : HP} {us : List (Nat × Value)} {L : List SA}

theorem Hp.perm {L' : List SA} {w : World} (h : Hp B H0 H L w) (hp : L.Perm L') : Hp B H0 H L' w :=
  ⟨h.below, h.agree, h.old, h.le, fun A hA => h.objs A (hp.mem_iff.2 hA), (hp.pairwise_iff (fun {x y} hxy b hy hx => hxy b hx hy)).1 h.sep⟩

theorem J.conv {ops : Array Oper} {rest : List Oper} {us' : List (Nat × Value)} {L' : List SA} (hu : us = us') (hL : L = L') (k : J P ops Q n B H0 rest us' H L') : J P ops Q n B H0 rest us H L := by
  subst hu
  subst hL
  exact k
abbrev Gh := Option Addr × Nat
def gh0 : Gh := (none, 0)
def flatL (A : Nat → Gh → List SA) (on : Nat → Bool) (gh : Nat → Gh) : List Nat → List SA
  | [] => []
  | i :: is => (bif on i then A i (gh i) else []) ++ flatL A on gh is
theorem flatL_congr {A : Nat → Gh → List SA} {on on' : Nat → Bool} {gh gh' : Nat → Gh} : ∀ {is : List Nat}, (∀ j, j ∈ is → on' j = on j ∧ gh' j = gh j) → flatL A on' gh' is = flatL A on gh is
  | [], _ => rfl
  | i :: is, h => by
    simp only [flatL]
    rw [(h i (by simp)).1, (h i (by simp)).2, flatL_congr (fun j hj => h j (by simp [hj]))]
theorem flatL_add {A : Nat → Gh → List SA} {on on' : Nat → Bool} {gh gh' : Nat → Gh} {i : Nat} (hi : on i = false) (hi' : on' i = true) (hne : ∀ j, j ≠ i → on' j = on j ∧ gh' j = gh j) :
    ∀ {is : List Nat}, is.Nodup → i ∈ is → (flatL A on' gh' is).Perm (A i (gh' i) ++ flatL A on gh is)
  | [], _, h => by cases h
  | k :: is, hn, h => by
    rw [List.nodup_cons] at hn
    simp only [flatL]
    by_cases e : k = i
    · subst e
      rw [hi, hi', flatL_congr (fun j hj => hne j (fun e => hn.1 (e ▸ hj)))]
      exact List.Perm.refl _
    · rw [(hne k e).1, (hne k e).2]
      have hm : i ∈ is := by
        rcases List.mem_cons.1 h with h | h
        · exact absurd h.symm e
        · exact h
      have ih := flatL_add hi hi' hne hn.2 hm (A := A)
      refine (List.Perm.append_left _ ih).trans ?_
      rw [← List.append_assoc, ← List.append_assoc]
      exact List.Perm.append_right _ List.perm_append_comm


/-! ### the same, and behind the ordered part operations that change nothing, in any order -/
/-- what is still to come behind the ordered part -/
def stl (P : Program) (ops : Array Oper) (Q : Exit → Act → World → Prop) (l2 : List Oper) : Exit → Act → World → Prop
  | .normal, a, w => wpStill P ops w (fun a' => Q .normal a' w) l2 a
  | x, a, w => Q x a w
theorem EJ.still {ops : Array Oper} {l2 : List Oper} (h : JS P ops Q n B H0 l2 us H L) : EJ (stl P ops Q l2 .normal) n B H0 us H L := h
theorem wpOp_monoQ {ops : Array Oper} {Q' : Exit → Act → World → Prop} (hq : ∀ x a w, x ≠ .normal → Q' x a w → Q x a w) {i : Nat} {a : Act} {w : World} {K : Act → World → Prop} (hh : wpOp P ops Q' i K a w) : wpOp P ops Q i K a w := by
  have lo : LetsOut Q' → LetsOut Q := fun ⟨a, w, h⟩ => ⟨a, w, hq _ a w (by simp) h⟩
  unfold wpOp at *
  split
  · simpa [*] using hh
  · rename_i o ho
    simp only [ho] at hh
    split
    · rename_i hw
      simp only [hw, if_true] at hh
      refine hh.imp (fun h => ?_) (fun h => ⟨h.1, lo h.2⟩)
      unfold Oper.wp at *
      generalize (execOp a.eval o).run P w = r at *
      cases r with
      | ok nx w' =>
        cases nx <;> simp only [Oper.upon] at h ⊢ <;>
          first
            | exact h
            | exact Calls.mono h (fun e w'' he => by cases e <;> first | exact he | exact hq _ _ _ (by simp) he | exact lo he)
      | halt x w' => cases x <;> simp only [Oper.upon] at h ⊢ <;> first | exact h | exact hq _ _ _ (by simp) h
    · rename_i hw
      simp only [hw] at hh
      exact hh
def seqLexB (md : Region.Mode) (ops : Array Oper) : Nat → Nat → Nat → Array Bool → Bool
  | 0, g, k, listed => Region.lexFrom md ops g k listed
  | f + 1, g, k, listed => decide (Region.ready md ops listed = [k]) && seqLexB md ops f g (k + 1) (listed.setIfInBounds k true)
theorem wpAny_of_seqLex {md : Region.Mode} {ops : Array Oper} (hsel : Region.noSelect ops = true) {l2 : List Oper} : ∀ (l : List Oper) (k : Nat) (listed : Array Bool) (a : Act) (w : World), (∀ j, j < l.length → l[j]? = ops[k + j]?) → (∀ j, l2[j]? = ops[k + l.length + j]?) →
    seqLexB md ops l.length l2.length k listed = true → wpList P ops (stl P ops Q l2) l a w → wpAny P md ops Q (l.length + l2.length) listed a w
  | [], k, listed, a, w, _, hl2, hB, h => by
    have := wpAnyS_lex (P := P) (md := md) (w := w) (Q := fun a' => Q .normal a' w) hsel l2 k listed a (fun j => by simpa using hl2 j) hB h
    simpa using wpAny_of_still (Q' := Q) (fun _ h => h) _ _ _ this
  | o :: l, k, listed, a, w, hl, hl2, hB, h => by
    have h0 : ops[k]? = some o := by simpa using (hl 0 (by simp)).symm
    simp only [List.length_cons, seqLexB, Bool.and_eq_true, decide_eq_true_eq] at hB
    rw [show (o :: l).length + l2.length = (l.length + l2.length) + 1 by simp; omega]
    refine ⟨fun h1 => (by rw [hB.1] at h1; cases h1), fun i hi => ?_⟩
    rw [hB.1] at hi
    have hik : i = k := by simpa using hi
    subst hik
    have hw : wpOp P ops (stl P ops Q l2) i (wpList P ops (stl P ops Q l2) l) a w := by unfold wpOp; simp only [h0]; exact h
    refine wpOp_mono (fun a' w' h' => wpAny_of_seqLex hsel l (i + 1) _ a' w' (fun j hj => by have := hl (j + 1) (by simp; omega); simpa [Nat.add_assoc, Nat.add_comm 1 j] using this) (fun j => by have := hl2 j; simpa [Nat.add_assoc, Nat.add_comm, Nat.add_left_comm] using this) hB.2 h') (wpOp_monoQ (fun x a w hx h => ?_) hw)
    cases x <;> first | exact absurd rfl hx | exact h
/-- each of the others waits for one of them -/
def chain2B (md : Region.Mode) (ops : Array Oper) (n : Nat) : Bool :=
  (List.range ops.size).all fun t => decide (t ≤ n) || (List.range t).any fun j => decide (n ≤ j) && Region.waitsFor md ops t j
def par2B (md : Region.Mode) (ops : Array Oper) (n s : Nat) : Bool :=
  decide (n < ops.size) && Region.sinkB md ops n && chain2B md ops n && seqLexB md ops s (ops.size - n - s) n (canon n ops.size) && Region.noSelect ops && decide (n + s ≤ ops.size) &&
    (List.range n).all fun i => ((ops[i]?).map fun o => o.after.all fun e => decide (e.on < i)).getD true
theorem tail_waits2 {md : Region.Mode} {ops : Array Oper} {n : Nat} {listed : Array Bool} (hs : Region.sinkB md ops n = true) (hc : chain2B md ops n = true) (hn : n < ops.size) (inv : HeadInv md ops n listed) :
    ∀ (d i : Nat), n - i = d → i < n → listed.getD i true = false → ∀ t, n ≤ t → t ∉ Region.ready md ops listed := by
  intro d
  induction d using Nat.strongRecOn with
  | _ d ih =>
    intro i hd hi hun t ht hr
    obtain ⟨_, ot, hot, hall⟩ := mem_ready.1 hr
    have htlt : t < ops.size := (Array.getElem?_eq_some_iff.1 hot).1
    by_cases htn : t = n
    · subst htn
      have h1 := List.all_eq_true.1 hs i (List.mem_range.2 hi)
      obtain ⟨j, hj, hj2⟩ := List.any_eq_true.1 h1
      simp only [Bool.and_eq_true, decide_eq_true_eq] at hj2
      obtain ⟨oj, hoj, e, he, hb, hon⟩ := Region.waitsFor_spec hj2.2
      have hjle : j ≤ t := by have := List.mem_range.1 hj; omega
      by_cases hjt : j = t
      · subst hjt
        have : oj = ot := Option.some.inj (hoj.symm.trans hot)
        subst this
        have h2 := hall e he hb
        rw [hon, getD_both hun] at h2
        cases h2
      · cases hl : listed.getD j false with
        | true =>
          have h2 := inv.closed j oj hoj hl e he hb
          rw [hon, getD_both hun] at h2
          cases h2
        | false =>
          have hjs : j < listed.size := by rw [inv.size]; omega
          exact ih (t - j) (by omega) j rfl (by omega) (getD_in hjs hl) t (Nat.le_refl _) hr
    · have h1 := List.all_eq_true.1 hc t (List.mem_range.2 htlt)
      simp only [Bool.or_eq_true, decide_eq_true_eq] at h1
      rcases h1 with h1 | h1
      · omega
      · obtain ⟨j, hj, hj2⟩ := List.any_eq_true.1 h1
        simp only [Bool.and_eq_true, decide_eq_true_eq] at hj2
        have hjt := List.mem_range.1 hj
        obtain ⟨o', ho', e, he, hb, hon⟩ := Region.waitsFor_spec hj2.2
        have : o' = ot := Option.some.inj (ho'.symm.trans hot)
        subst this
        have h2 := hall e he hb
        rw [hon, getD_both (inv.tail j hj2.1 (by omega))] at h2
        cases h2
theorem wpAny_par2 {md : Region.Mode} {ops : Array Oper} {m s : Nat} (hB : par2B md ops m s = true) (Inv : Array Bool → Act → World → Prop)
    (step : ∀ listed a w i, HeadInv md ops m listed → Inv listed a w → i ∈ Region.ready md ops listed → i < m → wpOp P ops Q i (Inv (listed.setIfInBounds i true)) a w)
    (fin : ∀ a w, Inv (canon m ops.size) a w → wpList P ops (stl P ops Q (ops.toList.drop (m + s))) ((ops.toList.drop m).take s) a w) :
    ∀ (f : Nat) (listed : Array Bool) (a : Act) (w : World), HeadInv md ops m listed → left listed m = f → Inv listed a w → wpAny P md ops Q (f + (ops.size - m)) listed a w := by
  simp only [par2B, Bool.and_eq_true, decide_eq_true_eq] at hB
  obtain ⟨⟨⟨⟨⟨⟨hn, hs⟩, hc⟩, hq⟩, hsel⟩, hms⟩, hfw⟩ := hB
  intro f
  induction f with
  | zero =>
    intro listed a w inv hf hI
    have e := canon_of inv hn (left_zero hf)
    subst e
    have hl1 : ((ops.toList.drop m).take s).length = s := by simp; omega
    have hl2 : (ops.toList.drop (m + s)).length = ops.size - m - s := by simp; omega
    have := wpAny_of_seqLex (md := md) (Q := Q) (ops := ops) hsel (l2 := ops.toList.drop (m + s)) ((ops.toList.drop m).take s) m (canon m ops.size) a w (fun j hj => by rw [hl1] at hj; rw [List.getElem?_take, if_pos hj, List.getElem?_drop]; simp)
      (fun j => by rw [hl1, List.getElem?_drop]; simp) (by rw [hl1, hl2]; exact hq) (fin a w hI)
    rw [hl1, hl2, show s + (ops.size - m - s) = ops.size - m by omega] at this
    rw [Nat.zero_add]
    exact this
  | succ f ih =>
    intro listed a w inv hf hI
    obtain ⟨i0, hi0, hun, hbef⟩ := left_pos (listed := listed) (k := m) (by omega)
    have hready : i0 ∈ Region.ready md ops listed := by
      have hi0s : i0 < ops.size := by omega
      rw [mem_ready]
      refine ⟨hun, ops[i0], by simp [hi0s], fun e he _ => ?_⟩
      have h1 := List.all_eq_true.1 hfw i0 (List.mem_range.2 hi0)
      simp only [Array.getElem?_eq_getElem hi0s, Option.map_some, Option.getD_some] at h1
      have h2 := Array.all_eq_true_iff_forall_mem.1 h1 e he
      have hlt : e.on < i0 := by simpa using h2
      have h3 := hbef e.on hlt
      have : e.on < listed.size := by have := inv.size; omega
      simp [this] at h3 ⊢
      exact h3
    rw [show f + 1 + (ops.size - m) = (f + (ops.size - m)) + 1 by omega]
    refine ⟨fun h0 => (by rw [h0] at hready; cases hready), fun i hi => ?_⟩
    have hin : i < m := by
      rcases Nat.lt_or_ge i m with h | h
      · exact h
      · exact absurd hi (tail_waits2 hs hc hn inv _ i0 rfl hi0 hun i h)
    have hiun := (mem_ready.1 hi).1
    have hl := left_set hiun m
    rw [if_pos hin] at hl
    exact wpOp_mono (fun a' w' h' => ih _ a' w' (inv.set hi hin) (by omega) h') (step listed a w i inv hI hi hin)
/-! ### behind the head: what touches slots alone may be run first -/
theorem wpAny_monoQ {md : Region.Mode} {ops : Array Oper} {Q' : Exit → Act → World → Prop} (hq : ∀ x a w, Q' x a w → Q x a w) : ∀ (f : Nat) (listed : Array Bool) (a : Act) (w : World), wpAny P md ops Q' f listed a w → wpAny P md ops Q f listed a w
  | 0, _, _, _, h => ⟨h.1, hq _ _ _ h.2⟩
  | f + 1, _, _, _, h => ⟨fun h0 => hq _ _ _ (h.1 h0), fun i hi => wpOp_monoQ (fun x a w _ h => hq x a w h) (wpOp_mono (fun a' w' h' => wpAny_monoQ hq f _ a' w' h') (h.2 i hi))⟩
/-- no panics -/
def Qn (Q : Exit → Act → World → Prop) : Exit → Act → World → Prop := fun x a w => x = .normal ∧ Q .normal a w
def AJ (P : Program) (l : List Oper) (Q : Exit → Act → World → Prop) (n : Nat) (B : World) (H0 : HP) (us : List (Nat × Value)) (H : HP) (L : List SA) (f : Nat) (listed : Array Bool) : Prop :=
  ∀ a w, Fr n us a → Hp B H0 H L w → wpAny P .any l.toArray (Qn Q) f listed a w
def nx (P : Program) (l : List Oper) (Q : Exit → Act → World → Prop) (f : Nat) (listed : Array Bool) : Exit → Act → World → Prop
  | .normal, a, w => wpAny P .any l.toArray (Qn Q) f listed a w
  | _, _, _ => False
theorem EJ.aj {l : List Oper} {f : Nat} {listed : Array Bool} (h : AJ P l Q n B H0 us H L f listed) : EJ (nx P l Q f listed .normal) n B H0 us H L := h
theorem AJ.take {l : List Oper} {f : Nat} {listed : Array Bool} (i : Nat) {o1 : Op} {t : TypeId} {p : String} {af : Array Edge} {d : Nat} {v : Value} (ho : l[i]? = some ⟨some d, o1, t, p, af, none⟩) (hs : Region.noSelect l.toArray = true) (hf : Region.free .any l.toArray listed i = true) (hr : (Region.ready .any l.toArray listed).contains i = true)
    (h : ∀ B H0 H L, PR P n B H0 us H L o1 t v) (hd : Nat.blt d n = true) (k : AJ P l Q n B H0 ((d, v) :: us) H L f (listed.setIfInBounds i true)) : AJ P l Q n B H0 us H L (f + 1) listed := fun a w hF hH =>
  wpAny_take (by simpa using ho) hs hf hr (fun c a w h => absurd h.1 (by simp)) (.inl ⟨by simp [Region.wanted], fun w' => h w' (hp w') (hp w') [] _ _ _ _ a w' hF (Hp.start fun _ _ h => h)⟩) (k _ _ (hF.put hd v) hH)
theorem AJ.only {l : List Oper} {f : Nat} {listed : Array Bool} (i : Nat) {o : Oper} (hr : Region.ready .any l.toArray listed = [i]) (ho : l[i]? = some o) (h : J P l.toArray (nx P l Q f (listed.setIfInBounds i true)) n B H0 [o] us H L) : AJ P l Q n B H0 us H L (f + 1) listed := fun a w hF hH => by
  refine ⟨fun h1 => (by rw [hr] at h1; cases h1), fun j hj => ?_⟩
  rw [hr] at hj
  have hji : j = i := by simpa using hj
  subst hji
  have hw : wpOp P l.toArray (nx P l Q f (listed.setIfInBounds j true)) j (wpList P l.toArray (nx P l Q f (listed.setIfInBounds j true)) []) a w := by
    have := h a w hF hH
    unfold wpOp
    simp only [List.getElem?_toArray, ho]
    exact this
  refine wpOp_monoQ (fun x a w hx h => ?_) (wpOp_mono (fun a' w' h' => ?_) hw)
  · cases x <;> first | exact absurd rfl hx | exact h.elim
  · exact h'
theorem AJ.nil {l : List Oper} {listed : Array Bool} (hr : Region.ready .any l.toArray listed = []) (h : EJ (Q .normal) n B H0 us H L) : AJ P l Q n B H0 us H L 0 listed := fun a w hF hH => ⟨hr, rfl, h a w hF hH⟩
def par3B (md : Region.Mode) (ops : Array Oper) (n : Nat) : Bool :=
  decide (n < ops.size) && Region.sinkB md ops n && chain2B md ops n &&
    (List.range n).all fun i => ((ops[i]?).map fun o => o.after.all fun e => decide (e.on < i)).getD true
theorem wpAny_par3 {md : Region.Mode} {ops : Array Oper} {m : Nat} (hB : par3B md ops m = true) (Inv : Array Bool → Act → World → Prop)
    (step : ∀ listed a w i, HeadInv md ops m listed → Inv listed a w → i ∈ Region.ready md ops listed → i < m → wpOp P ops Q i (Inv (listed.setIfInBounds i true)) a w)
    (fin : ∀ a w, Inv (canon m ops.size) a w → wpAny P md ops Q (ops.size - m) (canon m ops.size) a w) :
    ∀ (f : Nat) (listed : Array Bool) (a : Act) (w : World), HeadInv md ops m listed → left listed m = f → Inv listed a w → wpAny P md ops Q (f + (ops.size - m)) listed a w := by
  simp only [par3B, Bool.and_eq_true, decide_eq_true_eq] at hB
  obtain ⟨⟨⟨hn, hs⟩, hc⟩, hfw⟩ := hB
  intro f
  induction f with
  | zero =>
    intro listed a w inv hf hI
    have e := canon_of inv hn (left_zero hf)
    subst e
    rw [Nat.zero_add]
    exact fin a w hI
  | succ f ih =>
    intro listed a w inv hf hI
    obtain ⟨i0, hi0, hun, hbef⟩ := left_pos (listed := listed) (k := m) (by omega)
    have hready : i0 ∈ Region.ready md ops listed := by
      have hi0s : i0 < ops.size := by omega
      rw [mem_ready]
      refine ⟨hun, ops[i0], by simp [hi0s], fun e he _ => ?_⟩
      have h1 := List.all_eq_true.1 hfw i0 (List.mem_range.2 hi0)
      simp only [Array.getElem?_eq_getElem hi0s, Option.map_some, Option.getD_some] at h1
      have h2 := Array.all_eq_true_iff_forall_mem.1 h1 e he
      have hlt : e.on < i0 := by simpa using h2
      have h3 := hbef e.on hlt
      have : e.on < listed.size := by have := inv.size; omega
      simp [this] at h3 ⊢
      exact h3
    rw [show f + 1 + (ops.size - m) = (f + (ops.size - m)) + 1 by omega]
    refine ⟨fun h0 => (by rw [h0] at hready; cases hready), fun i hi => ?_⟩
    have hin : i < m := by
      rcases Nat.lt_or_ge i m with h | h
      · exact h
      · exact absurd hi (tail_waits2 hs hc hn inv _ i0 rfl hi0 hun i h)
    have hiun := (mem_ready.1 hi).1
    have hl := left_set hiun m
    rw [if_pos hin] at hl
    exact wpOp_mono (fun a' w' h' => ih _ a' w' (inv.set hi hin) (by omega) h') (step listed a w i inv hI hi hin)
/-! ### the head of an open region, operation by operation -/
/-- What an operation of the head gives: its slot, its value, what is new. -/
structure Vl where
  d : Option Nat
  v : Gh → Value
  A : Gh → List SA
instance : Inhabited Vl := ⟨⟨none, fun _ => undef, fun _ => []⟩⟩
/-- what operation i gave; the newest stands first, under its number -/
def vlAt : List (Nat × Vl) → Nat → Vl
  | [], _ => default
  | (k, x) :: l, i => bif Nat.beq k i then x else vlAt l i
def slotsV (vs : List (Nat × Vl)) (gh : Nat → Gh) : List Nat → List (Nat × Value)
  | [] => []
  | i :: is => match (vlAt vs i).d with
    | some d => (d, (vlAt vs i).v (gh i)) :: slotsV vs gh is
    | none => slotsV vs gh is
/-- One operation of the head. -/
def OpStep2 (P : Program) (ops : Array Oper) (n : Nat) (B : World) (H0 : HP) (us : List (Nat × Value)) (H : HP) (L : List SA) (o : Oper) (val : Gh → Value) (A : Gh → List SA) : Prop :=
  ∀ (a : Act) (w : World) (K : Act → World → Prop) (Q : Exit → Act → World → Prop), Fr n us a → Hp B H0 H L w → (∀ x w', Hp B H0 H (A x ++ L) w' → K (a.put o.dst (val x)) w') →
    (if Region.wanted o (yielded ops a.tmps) then o.wp P a w K Q ∨ (o.asks P a w ∧ LetsOut Q) else K (a.put o.dst undef) w)
def preB (ops : Array Oper) (pre : List (List Nat)) (m : Nat) : Bool :=
  (List.range m).all fun i => (pre.getD i []).all fun j => Region.waitsFor .any ops i j && Nat.blt j i
def HJ (P : Program) (id : Nat) (l : List Oper) (Q : Exit → Act → World → Prop) (n : Nat) (B : World) (H0 : HP) (us : List (Nat × Value)) (H : HP) (L : List SA) (pre : List (List Nat)) (rest : List Oper) (k : Nat) (vs : List (Nat × Vl)) : Prop :=
  l.drop k = rest → preB l.toArray pre l.length = true → (∀ i o, i < k → l[i]? = some o → o.dst = (vlAt vs i).d ∧ ∀ gh X, OpStep2 P l.toArray n B H0 (slotsV vs gh (pre.getD i []) ++ us) H (X ++ L) o (vlAt vs i).v (vlAt vs i).A) → CJ P (.region id l.toArray true) Q n B H0 us H L
section
variable {id : Nat} {l rest : List Oper} {pre : List (List Nat)} {k : Nat} {vs : List (Nat × Vl)} {o1 : Op} {t : TypeId} {p : String} {af : Array Edge} {d : Option Nat} {v : Value}
theorem vlAt_new {k : Nat} {x : Vl} {vs : List (Nat × Vl)} : vlAt ((k, x) :: vs) k = x := by
  simp [vlAt]
theorem vlAt_lt {k i : Nat} {x : Vl} {vs : List (Nat × Vl)} (h : i < k) : vlAt ((k, x) :: vs) i = vlAt vs i := by
  have : Nat.beq k i = false := by
    cases hb : Nat.beq k i with
    | false => rfl
    | true => exact absurd (Nat.eq_of_beq_eq_true hb) (by omega)
  simp [vlAt, this]
theorem slotsV_new {k : Nat} {x : Vl} {vs : List (Nat × Vl)} {gh : Nat → Gh} : ∀ {is : List Nat}, (∀ j, j ∈ is → j < k) → slotsV ((k, x) :: vs) gh is = slotsV vs gh is
  | [], _ => rfl
  | j :: is, h => by
    unfold slotsV
    rw [vlAt_lt (h j (by simp)), slotsV_new (fun i hi => h i (by simp [hi]))]
theorem preB_lt {ops : Array Oper} {m i j : Nat} (h : preB ops pre m = true) (hi : i < m) (hj : j ∈ pre.getD i []) : j < i := by
  have h1 := List.all_eq_true.1 h i (List.mem_range.2 hi)
  have h2 := List.all_eq_true.1 h1 j hj
  simp only [Bool.and_eq_true] at h2
  exact Nat.le_of_ble_eq_true h2.2
theorem HJ.step {o : Oper} {x : Vl} (hd : o.dst = x.d) (h : ∀ gh X, OpStep2 P l.toArray n B H0 (slotsV vs gh (pre.getD k []) ++ us) H (X ++ L) o x.v x.A)
    (kk : HJ P id l Q n B H0 us H L pre rest (k + 1) ((k, x) :: vs)) : HJ P id l Q n B H0 us H L pre (o :: rest) k vs := by
  intro hr hp hall
  have ho : l[k]? = some o := by
    have := congrArg (·[0]?) hr
    simpa using this
  have hkl : k < l.length := (List.getElem?_eq_some_iff.1 ho).1
  refine kk ?_ hp fun i o' hi ho' => ?_
  · have := congrArg (List.drop 1) hr
    simpa [List.drop_drop, Nat.add_comm] using this
  · have hps : ∀ gh, slotsV ((k, x) :: vs) gh (pre.getD i []) = slotsV vs gh (pre.getD i []) := fun gh => slotsV_new fun j hj => by
      have := preB_lt hp (by omega) hj
      omega
    rcases Nat.lt_or_ge i k with h1 | h1
    · rw [vlAt_lt h1]
      obtain ⟨a1, a2⟩ := hall i o' h1 ho'
      exact ⟨a1, fun gh X => by rw [hps gh]; exact a2 gh X⟩
    · have : i = k := by omega
      subst this
      rw [ho] at ho'
      cases ho'
      rw [vlAt_new]
      exact ⟨hd, fun gh X => by rw [hps gh]; exact h gh X⟩
theorem HJ.op (h : ∀ gh, PR P n B H0 (slotsV vs gh (pre.getD k []) ++ us) H L o1 t v) (kk : HJ P id l Q n B H0 us H L pre rest (k + 1) ((k, ⟨d, fun _ => v, fun _ => []⟩) :: vs)) :
    HJ P id l Q n B H0 us H L pre (⟨d, o1, t, p, af, none⟩ :: rest) k vs :=
  HJ.step (x := ⟨d, fun _ => v, fun _ => []⟩) rfl (fun gh X a w K Q hF hH hK => by
    rw [if_pos (by simp [Region.wanted])]
    refine .inl ?_
    unfold Oper.wp
    rw [h gh _ _ _ _ a w hF (hH.sublist (List.sublist_append_right X L))]
    exact hK gh0 w hH) kk
theorem HJ.gy {j jd : Nat} {want b : Bool} (h : ∀ gh, PR P n B H0 (slotsV vs gh (pre.getD k []) ++ us) H L o1 t v) (hj : ((l.toArray)[j]?).bind (·.dst) = some jd) (hv : ∀ gh, lk (slotsV vs gh (pre.getD k []) ++ us) jd = some (.bool b)) (hb : b = want)
    (kk : HJ P id l Q n B H0 us H L pre rest (k + 1) ((k, ⟨d, fun _ => v, fun _ => []⟩) :: vs)) : HJ P id l Q n B H0 us H L pre (⟨d, o1, t, p, af, some (j, want)⟩ :: rest) k vs :=
  HJ.step (x := ⟨d, fun _ => v, fun _ => []⟩) rfl (fun gh X a w K Q hF hH hK => by
    rw [if_pos (by simp [Region.wanted, yield_of hF hj (hv gh), hb])]
    refine .inl ?_
    unfold Oper.wp
    rw [h gh _ _ _ _ a w hF (hH.sublist (List.sublist_append_right X L))]
    exact hK gh0 w hH) kk
theorem HJ.gn {j jd : Nat} {want b : Bool} (hj : ((l.toArray)[j]?).bind (·.dst) = some jd) (hv : ∀ gh, lk (slotsV vs gh (pre.getD k []) ++ us) jd = some (.bool b)) (hb : b = !want)
    (kk : HJ P id l Q n B H0 us H L pre rest (k + 1) ((k, ⟨d, fun _ => undef, fun _ => []⟩) :: vs)) : HJ P id l Q n B H0 us H L pre (⟨d, o1, t, p, af, some (j, want)⟩ :: rest) k vs :=
  HJ.step (x := ⟨d, fun _ => undef, fun _ => []⟩) rfl (fun gh X a w K Q hF hH hK => by
    rw [if_neg (by cases want <;> simp [Region.wanted, yield_of hF hj (hv gh), hb])]
    exact hK gh0 w hH) kk
theorem HJ.gu {j jd : Nat} {want : Bool} (hj : ((l.toArray)[j]?).bind (·.dst) = some jd) (hv : ∀ gh, lk (slotsV vs gh (pre.getD k []) ++ us) jd = some undef)
    (kk : HJ P id l Q n B H0 us H L pre rest (k + 1) ((k, ⟨d, fun _ => undef, fun _ => []⟩) :: vs)) : HJ P id l Q n B H0 us H L pre (⟨d, o1, t, p, af, some (j, want)⟩ :: rest) k vs :=
  HJ.step (x := ⟨d, fun _ => undef, fun _ => []⟩) rfl (fun gh X a w K Q hF hH hK => by
    rw [if_neg (by simp [Region.wanted, yield_un hF hj (hv gh)])]
    exact hK gh0 w hH) kk
theorem HJ.splitB {b : Bool} (i : Nat) (hv : (vlAt vs i).v gh0 = .bool b) (ht : b = true → HJ P id l Q n B H0 us H L pre rest k vs) (hf : b = false → HJ P id l Q n B H0 us H L pre rest k vs) : HJ P id l Q n B H0 us H L pre rest k vs := by
  cases b
  · exact hf rfl
  · exact ht rfl
theorem call_run {f : FuncId} (hfn : Fn P f) {ats : Array TypeId} {xs : List Operand} {ws : List Value} {g : Option (Nat × Bool)} {a : Act} {w : World} {us : List (Nat × Value)} (hF : Fr n us a) (hx : opvs us xs = some ws) :
    (execOp a.eval ⟨d, .call { callee := .value (.func f), args := xs.toArray, argTypes := ats }, t, p, af, g⟩).run P w = .ok (.enter f ws.toArray) w := by
  have := hF.evs hx
  simp [execOp, resolve, invoke, Deferred.ofValue, Act.eval, this, hfn.run]
theorem HJ.call {f : FuncId} (hfn : Fn P f) {ats : Array TypeId} {xs : List Operand} {ws : List Value} (hx : ∀ gh, opvs (slotsV vs gh (pre.getD k []) ++ us) xs = some ws)
    (hc : ∀ w X, Hp B H0 H (X ++ L) w → Calls P f ws.toArray w fun e w' => e = .returned v ∧ Hp B H0 H (X ++ L) w')
    (kk : HJ P id l Q n B H0 us H L pre rest (k + 1) ((k, ⟨d, fun _ => v, fun _ => []⟩) :: vs)) : HJ P id l Q n B H0 us H L pre (⟨d, .call { callee := .value (.func f), args := xs.toArray, argTypes := ats }, t, p, af, none⟩ :: rest) k vs :=
  HJ.step (x := ⟨d, fun _ => v, fun _ => []⟩) rfl (fun gh X a w K Q hF hH hK => by
    rw [if_pos (by simp [Region.wanted])]
    refine .inl ?_
    unfold Oper.wp
    rw [call_run hfn hF (hx gh), Oper.upon_enter]
    exact (hc w X hH).mono fun e w' ⟨he, h⟩ => by subst he; exact hK gh0 _ h) kk
theorem HJ.gcall {f : FuncId} (hfn : Fn P f) {ats : Array TypeId} {xs : List Operand} {ws : List Value} {j jd : Nat} {want b : Bool} (hj : ((l.toArray)[j]?).bind (·.dst) = some jd) (hv : ∀ gh, lk (slotsV vs gh (pre.getD k []) ++ us) jd = some (.bool b)) (hb : b = want)
    (hx : ∀ gh, opvs (slotsV vs gh (pre.getD k []) ++ us) xs = some ws)
    (hc : ∀ w X, Hp B H0 H (X ++ L) w → Calls P f ws.toArray w fun e w' => e = .returned v ∧ Hp B H0 H (X ++ L) w')
    (kk : HJ P id l Q n B H0 us H L pre rest (k + 1) ((k, ⟨d, fun _ => v, fun _ => []⟩) :: vs)) : HJ P id l Q n B H0 us H L pre (⟨d, .call { callee := .value (.func f), args := xs.toArray, argTypes := ats }, t, p, af, some (j, want)⟩ :: rest) k vs :=
  HJ.step (x := ⟨d, fun _ => v, fun _ => []⟩) rfl (fun gh X a w K Q hF hH hK => by
    rw [if_pos (by simp [Region.wanted, yield_of hF hj (hv gh), hb])]
    refine .inl ?_
    unfold Oper.wp
    rw [call_run hfn hF (hx gh), Oper.upon_enter]
    exact (hc w X hH).mono fun e w' ⟨he, h⟩ => by subst he; exact hK gh0 _ h) kk
/-- a call that makes something -/
theorem HJ.callN {f : FuncId} (hfn : Fn P f) {ats : Array TypeId} {xs : List Operand} {ws : List Value} {V : Option Addr → Nat → Value} {A : Option Addr → Nat → SA} (hx : ∀ gh, opvs (slotsV vs gh (pre.getD k []) ++ us) xs = some ws)
    (hc : ∀ w X, Hp B H0 H (X ++ L) w → Calls P f ws.toArray w fun e w' => ∃ q c, e = .returned (V q c) ∧ Hp B H0 H (A q c :: (X ++ L)) w')
    (kk : HJ P id l Q n B H0 us H L pre rest (k + 1) ((k, ⟨d, fun x => V x.1 x.2, fun x => [A x.1 x.2]⟩) :: vs)) : HJ P id l Q n B H0 us H L pre (⟨d, .call { callee := .value (.func f), args := xs.toArray, argTypes := ats }, t, p, af, none⟩ :: rest) k vs :=
  HJ.step (x := ⟨d, fun x => V x.1 x.2, fun x => [A x.1 x.2]⟩) rfl (fun gh X a w K Q hF hH hK => by
    rw [if_pos (by simp [Region.wanted])]
    refine .inl ?_
    unfold Oper.wp
    rw [call_run hfn hF (hx gh), Oper.upon_enter]
    exact (hc w X hH).mono fun e w' ⟨q, c, he, h⟩ => by subst he; exact hK (q, c) _ h) kk
def dstV (vs : List (Nat × Vl)) (us : List (Nat × Value)) (m n : Nat) : Bool :=
  (List.range m).all fun i => match (vlAt vs i).d with
    | some d => Nat.blt d n && !hasKey us d && (List.range m).all fun j => Nat.beq i j || match (vlAt vs j).d with | some d' => !Nat.beq d d' | none => true
    | none => true
def flatV (vs : List (Nat × Vl)) (on : Nat → Bool) (gh : Nat → Gh) : List Nat → List SA := flatL (fun i => (vlAt vs i).A) on gh
/-- all that is new -/
def newV (vs : List (Nat × Vl)) (gh : Nat → Gh) : List Nat → List SA
  | [] => []
  | i :: is => (vlAt vs i).A (gh i) ++ newV vs gh is
theorem newV_eq {vs : List (Nat × Vl)} {gh : Nat → Gh} : ∀ is : List Nat, flatL (fun i => (vlAt vs i).A) (fun _ => true) gh is = newV vs gh is
  | [] => rfl
  | i :: is => by simp only [flatL, newV, newV_eq is]; rfl
theorem slotsV_get {vs : List (Nat × Vl)} {gh : Nat → Gh} {a : Act} (hF : Fr n us a) : ∀ {is : List Nat}, (∀ i, i ∈ is → ∀ d, (vlAt vs i).d = some d → a.tmps.getD d undef = (vlAt vs i).v (gh i)) → Fr n (slotsV vs gh is ++ us) a
  | [], _ => hF
  | i :: is, h => by
    have ih := slotsV_get hF (fun j hj => h j (List.mem_cons_of_mem _ hj)) (vs := vs) (gh := gh) (is := is)
    unfold slotsV
    cases hd : (vlAt vs i).d with
    | none => exact ih
    | some d =>
      refine ⟨ih.size, ih.defers, fun j v hj => ?_⟩
      simp only [List.cons_append, lk] at hj
      cases hb : Nat.beq d j with
      | true =>
        rw [hb] at hj
        simp at hj
        subst hj
        have := Nat.eq_of_beq_eq_true hb
        subst this
        exact h i (by simp) d hd
      | false => rw [hb] at hj; exact ih.get j v hj
theorem HJ.close (m s : Nat) (hm : P.follows .mixedOrders = true) (hB : par2B .any l.toArray m s = true) (hvm : k = m) (hd : dstV vs us m n = true)
    (htail : ∀ gh : Nat → Gh, J P l.toArray (stl P l.toArray Q (l.drop (m + s))) n B H0 ((l.drop m).take s) (slotsV vs gh (List.range m) ++ us) H (newV vs gh (List.range m) ++ L)) :
    HJ P id l Q n B H0 us H L pre rest k vs := by
  intro _ hwl hAll a0 w0 hF0 hH0
  have hdst : ∀ i, i < m → (l[i]?).bind (·.dst) = (vlAt vs i).d := fun i hi => by
    have hB' := hB
    simp only [par2B, Bool.and_eq_true, decide_eq_true_eq] at hB'
    have hn : m < l.toArray.size := hB'.1.1.1.1.1.1
    have hil : i < l.length := by simp at hn; omega
    rw [List.getElem?_eq_getElem hil]
    exact (hAll i l[i] (by omega) (List.getElem?_eq_getElem hil)).1
  let val : Nat → Gh → Value := fun i => (vlAt vs i).v
  let A : Nat → Gh → List SA := fun i => (vlAt vs i).A
  have hB' := hB
  simp only [par2B, Bool.and_eq_true, decide_eq_true_eq] at hB'
  have hn : m < l.toArray.size := hB'.1.1.1.1.1.1
  have hH0' := hH0.chg0 (w' := { w0 with drawn := w0.drawn + 1 }) ⟨rfl, rfl, rfl, Nat.le_refl _, fun _ _ _ => rfl⟩
  let Inv : Array Bool → Act → World → Prop := fun listed a w => ∃ gh : Nat → Gh, Fr n us a ∧ (∀ i, i < m → listed.getD i true = true → ∀ d, (vlAt vs i).d = some d → a.tmps.getD d undef = val i (gh i)) ∧ Hp B H0 H (flatL A (fun i => listed.getD i true) gh (List.range m) ++ L) w
  have hfalse : ∀ i, i < m → (Array.replicate l.toArray.size false).getD i true = false := fun i hi => by
    have : i < l.toArray.size := by omega
    simp at this
    simp [this]
  have hstp : ∀ listed a w i, HeadInv .any l.toArray m listed → Inv listed a w → i ∈ Region.ready .any l.toArray listed → i < m → wpOp P l.toArray Q i (Inv (listed.setIfInBounds i true)) a w := by
    intro listed a w i inv hI hi him
    obtain ⟨gh, hF, hsl, hH⟩ := hI
    obtain ⟨hun, o, ho, hall⟩ := mem_ready.1 hi
    have ho' : l[i]? = some o := by simpa using ho
    have hpre : ∀ j, j ∈ pre.getD i [] → listed.getD j true = true ∧ j < m ∧ j < i := fun j hj => by
      have h1 := List.all_eq_true.1 hwl i (List.mem_range.2 (by simp at hn; omega))
      have h2 := List.all_eq_true.1 h1 j hj
      simp only [Bool.and_eq_true] at h2
      have h22 := Nat.le_of_ble_eq_true h2.2
      obtain ⟨o', ho2, e, he, hb, hon⟩ := Region.waitsFor_spec h2.1
      have : o' = o := Option.some.inj (ho2.symm.trans ho)
      subst this
      have h3 := hall e he hb
      rw [hon] at h3
      have : j < listed.size := by
        rcases Nat.lt_or_ge j listed.size with h | h
        · exact h
        · simp [Array.getElem?_eq_none h] at h3
      exact ⟨by simp [this] at h3 ⊢; exact h3, by omega, by omega⟩
    obtain ⟨hod, hst0⟩ := hAll i o (by omega) ho'
    have hst := hst0 gh (flatL A (fun i => listed.getD i true) gh (List.range m))
    unfold wpOp
    rw [ho]
    refine hst a w _ Q (slotsV_get hF fun j hj d hd' => hsl j (hpre j hj).2.1 (hpre j hj).1 d hd') hH fun x w' hH' => ?_
    have hdi := List.all_eq_true.1 hd i (List.mem_range.2 him)
    rw [← hod] at hdi
    refine ⟨fun j => if j = i then x else gh j, ?_, fun j hj hl d hd' => ?_, ?_⟩
    · cases hdst' : o.dst with
      | none => exact hF
      | some d =>
        simp only [hdst', Bool.and_eq_true] at hdi
        have hF2 := hF.put hdi.1.1 (val i x)
        refine ⟨hF2.size, hF2.defers, fun k v hk => hF2.get k v ?_⟩
        simp only [lk]
        have : Nat.beq d k = false := by
          cases hb : Nat.beq d k with
          | false => rfl
          | true =>
            have := Nat.eq_of_beq_eq_true hb
            subst this
            have h5 := hdi.1.2
            rw [Bool.not_eq_true'] at h5
            rw [lk_none h5] at hk
            cases hk
        rw [this]
        exact hk
    · show (a.put o.dst (val i x)).tmps.getD d undef = val j (if j = i then x else gh j)
      by_cases e : j = i
      · subst e
        rw [if_pos rfl]
        rw [← hod] at hd'
        rw [hd']
        simp only [hd', Bool.and_eq_true] at hdi
        have hlt : d < n := Nat.le_of_ble_eq_true hdi.1.1
        simp [Act.put, Array.getD_eq_getD_getElem?, hF.size, hlt]
      · rw [if_neg e]
        rw [getD_set_ne true (Ne.symm e)] at hl
        have h1 := hsl j hj hl d hd'
        cases hdst' : o.dst with
        | none => simpa [Act.put] using h1
        | some d0 =>
          simp only [hdst', Bool.and_eq_true] at hdi
          have h6 := List.all_eq_true.1 hdi.2 j (List.mem_range.2 hj)
          have hbij : Nat.beq i j = false := by
            cases hb : Nat.beq i j with
            | false => rfl
            | true => exact absurd (Nat.eq_of_beq_eq_true hb).symm e
          rw [hbij, hd'] at h6
          have hne : d0 ≠ d := fun e' => by subst e'; simp at h6
          rw [Array.getD_eq_getD_getElem?] at h1 ⊢
          simp only [Act.put]
          rw [Array.getElem?_setIfInBounds_ne hne]
          exact h1
    · refine hH'.perm ?_
      have hsz : i < listed.size := by
        rcases Nat.lt_or_ge i listed.size with h | h
        · exact h
        · simp [Array.getElem?_eq_none h] at hun
      have hp := flatL_add (A := A) (on := fun i => listed.getD i true) (on' := fun j => (listed.setIfInBounds i true).getD j true) (gh := gh) (gh' := fun j => if j = i then x else gh j) (i := i) hun (by simp [hsz])
        (fun j hj => ⟨getD_set_ne true (Ne.symm hj), by simp [hj]⟩) (is := List.range m) List.nodup_range (List.mem_range.2 him)
      rw [← List.append_assoc]
      refine (List.Perm.append_right L ?_).symm
      rw [if_pos rfl] at hp
      exact hp
  have hfin : ∀ a w, Inv (canon m l.toArray.size) a w → wpList P l.toArray (stl P l.toArray Q (l.toArray.toList.drop (m + s))) ((l.toArray.toList.drop m).take s) a w := by
    intro a w hI
    obtain ⟨gh, hF, hsl, hH⟩ := hI
    have hcan : ∀ i, i < m → (canon m l.toArray.size).getD i true = true := fun i hi => by
      have h1 : i < (canon m l.toArray.size).size := by simp [canon]; omega
      simp only [canon]
      rw [Array.getD_eq_getD_getElem?]
      simp [List.getElem?_append_left, hi]
    have hfl : flatL A (fun i => (canon m l.toArray.size).getD i true) gh (List.range m) = flatL A (fun _ => true) gh (List.range m) := flatL_congr fun j hj => ⟨hcan j (List.mem_range.1 hj), rfl⟩
    rw [hfl, newV_eq] at hH
    exact htail gh a w (slotsV_get hF fun i hi d hd' => hsl i (List.mem_range.1 hi) (hcan i (List.mem_range.1 hi)) d hd') hH
  have hstart : Inv (Array.replicate l.toArray.size false) a0 { w0 with drawn := w0.drawn + 1 } := by
    refine ⟨fun _ => gh0, hF0, fun i hi hl => (by rw [hfalse i hi] at hl; cases hl), ?_⟩
    have : flatL A (fun i => (Array.replicate l.toArray.size false).getD i true) (fun _ => gh0) (List.range m) = [] := by
      have key : ∀ is : List Nat, (∀ i, i ∈ is → i < m) → flatL A (fun i => (Array.replicate l.toArray.size false).getD i true) (fun _ => gh0) is = [] := by
        intro is
        induction is with
        | nil => intro _; rfl
        | cons i is ih => intro h; simp only [flatL]; rw [hfalse i (h i (by simp)), ih (fun j hj => h j (by simp [hj]))]; rfl
      exact key _ (fun i hi => List.mem_range.1 hi)
    rw [this]
    exact hH0'
  refine wp_region_any hm ?_
  have key := wpAny_par2 (P := P) (Q := Q) hB Inv hstp hfin (left (Array.replicate l.toArray.size false) m) (Array.replicate l.toArray.size false) a0 { w0 with drawn := w0.drawn + 1 }
    ⟨by simp, fun j oj _ hl => (by rw [getD_replicate_false] at hl; cases hl), fun t _ ht => getD_in (by simpa using ht) (getD_replicate_false _ _)⟩ rfl hstart
  have hl : left (Array.replicate l.toArray.size false) m = m := by
    have : ∀ k, k ≤ m → left (Array.replicate l.toArray.size false) k = k := by
      intro k
      induction k with
      | zero => intro _; rfl
      | succ k ih => intro hk; simp only [left]; rw [ih (by omega), hfalse k (by omega)]; rfl
    exact this m (Nat.le_refl _)
  rw [hl, show m + (l.toArray.size - m) = l.toArray.size by omega] at key
  exact key
theorem HJ.closeA (m : Nat) (hm : P.follows .mixedOrders = true) (hB : par3B .any l.toArray m = true) (hvm : k = m) (hd : dstV vs us m n = true)
    (htail : ∀ gh : Nat → Gh, AJ P l Q n B H0 (slotsV vs gh (List.range m) ++ us) H (newV vs gh (List.range m) ++ L) (l.length - m) (canon m l.length)) :
    HJ P id l Q n B H0 us H L pre rest k vs := by
  intro _ hwl hAll a0 w0 hF0 hH0
  have hdst : ∀ i, i < m → (l[i]?).bind (·.dst) = (vlAt vs i).d := fun i hi => by
    have hB' := hB
    simp only [par3B, Bool.and_eq_true, decide_eq_true_eq] at hB'
    have hn : m < l.toArray.size := hB'.1.1.1
    have hil : i < l.length := by simp at hn; omega
    rw [List.getElem?_eq_getElem hil]
    exact (hAll i l[i] (by omega) (List.getElem?_eq_getElem hil)).1
  let val : Nat → Gh → Value := fun i => (vlAt vs i).v
  let A : Nat → Gh → List SA := fun i => (vlAt vs i).A
  have hB' := hB
  simp only [par3B, Bool.and_eq_true, decide_eq_true_eq] at hB'
  have hn : m < l.toArray.size := hB'.1.1.1
  have hH0' := hH0.chg0 (w' := { w0 with drawn := w0.drawn + 1 }) ⟨rfl, rfl, rfl, Nat.le_refl _, fun _ _ _ => rfl⟩
  let Inv : Array Bool → Act → World → Prop := fun listed a w => ∃ gh : Nat → Gh, Fr n us a ∧ (∀ i, i < m → listed.getD i true = true → ∀ d, (vlAt vs i).d = some d → a.tmps.getD d undef = val i (gh i)) ∧ Hp B H0 H (flatL A (fun i => listed.getD i true) gh (List.range m) ++ L) w
  have hfalse : ∀ i, i < m → (Array.replicate l.toArray.size false).getD i true = false := fun i hi => by
    have : i < l.toArray.size := by omega
    simp at this
    simp [this]
  have hstp : ∀ listed a w i, HeadInv .any l.toArray m listed → Inv listed a w → i ∈ Region.ready .any l.toArray listed → i < m → wpOp P l.toArray Q i (Inv (listed.setIfInBounds i true)) a w := by
    intro listed a w i inv hI hi him
    obtain ⟨gh, hF, hsl, hH⟩ := hI
    obtain ⟨hun, o, ho, hall⟩ := mem_ready.1 hi
    have ho' : l[i]? = some o := by simpa using ho
    have hpre : ∀ j, j ∈ pre.getD i [] → listed.getD j true = true ∧ j < m ∧ j < i := fun j hj => by
      have h1 := List.all_eq_true.1 hwl i (List.mem_range.2 (by simp at hn; omega))
      have h2 := List.all_eq_true.1 h1 j hj
      simp only [Bool.and_eq_true] at h2
      have h22 := Nat.le_of_ble_eq_true h2.2
      obtain ⟨o', ho2, e, he, hb, hon⟩ := Region.waitsFor_spec h2.1
      have : o' = o := Option.some.inj (ho2.symm.trans ho)
      subst this
      have h3 := hall e he hb
      rw [hon] at h3
      have : j < listed.size := by
        rcases Nat.lt_or_ge j listed.size with h | h
        · exact h
        · simp [Array.getElem?_eq_none h] at h3
      exact ⟨by simp [this] at h3 ⊢; exact h3, by omega, by omega⟩
    obtain ⟨hod, hst0⟩ := hAll i o (by omega) ho'
    have hst := hst0 gh (flatL A (fun i => listed.getD i true) gh (List.range m))
    unfold wpOp
    rw [ho]
    refine hst a w _ Q (slotsV_get hF fun j hj d hd' => hsl j (hpre j hj).2.1 (hpre j hj).1 d hd') hH fun x w' hH' => ?_
    have hdi := List.all_eq_true.1 hd i (List.mem_range.2 him)
    rw [← hod] at hdi
    refine ⟨fun j => if j = i then x else gh j, ?_, fun j hj hl d hd' => ?_, ?_⟩
    · cases hdst' : o.dst with
      | none => exact hF
      | some d =>
        simp only [hdst', Bool.and_eq_true] at hdi
        have hF2 := hF.put hdi.1.1 (val i x)
        refine ⟨hF2.size, hF2.defers, fun k v hk => hF2.get k v ?_⟩
        simp only [lk]
        have : Nat.beq d k = false := by
          cases hb : Nat.beq d k with
          | false => rfl
          | true =>
            have := Nat.eq_of_beq_eq_true hb
            subst this
            have h5 := hdi.1.2
            rw [Bool.not_eq_true'] at h5
            rw [lk_none h5] at hk
            cases hk
        rw [this]
        exact hk
    · show (a.put o.dst (val i x)).tmps.getD d undef = val j (if j = i then x else gh j)
      by_cases e : j = i
      · subst e
        rw [if_pos rfl]
        rw [← hod] at hd'
        rw [hd']
        simp only [hd', Bool.and_eq_true] at hdi
        have hlt : d < n := Nat.le_of_ble_eq_true hdi.1.1
        simp [Act.put, Array.getD_eq_getD_getElem?, hF.size, hlt]
      · rw [if_neg e]
        rw [getD_set_ne true (Ne.symm e)] at hl
        have h1 := hsl j hj hl d hd'
        cases hdst' : o.dst with
        | none => simpa [Act.put] using h1
        | some d0 =>
          simp only [hdst', Bool.and_eq_true] at hdi
          have h6 := List.all_eq_true.1 hdi.2 j (List.mem_range.2 hj)
          have hbij : Nat.beq i j = false := by
            cases hb : Nat.beq i j with
            | false => rfl
            | true => exact absurd (Nat.eq_of_beq_eq_true hb).symm e
          rw [hbij, hd'] at h6
          have hne : d0 ≠ d := fun e' => by subst e'; simp at h6
          rw [Array.getD_eq_getD_getElem?] at h1 ⊢
          simp only [Act.put]
          rw [Array.getElem?_setIfInBounds_ne hne]
          exact h1
    · refine hH'.perm ?_
      have hsz : i < listed.size := by
        rcases Nat.lt_or_ge i listed.size with h | h
        · exact h
        · simp [Array.getElem?_eq_none h] at hun
      have hp := flatL_add (A := A) (on := fun i => listed.getD i true) (on' := fun j => (listed.setIfInBounds i true).getD j true) (gh := gh) (gh' := fun j => if j = i then x else gh j) (i := i) hun (by simp [hsz])
        (fun j hj => ⟨getD_set_ne true (Ne.symm hj), by simp [hj]⟩) (is := List.range m) List.nodup_range (List.mem_range.2 him)
      rw [← List.append_assoc]
      refine (List.Perm.append_right L ?_).symm
      rw [if_pos rfl] at hp
      exact hp
  have hfin : ∀ a w, Inv (canon m l.toArray.size) a w → wpAny P .any l.toArray Q (l.toArray.size - m) (canon m l.toArray.size) a w := by
    intro a w hI
    obtain ⟨gh, hF, hsl, hH⟩ := hI
    have hcan : ∀ i, i < m → (canon m l.toArray.size).getD i true = true := fun i hi => by
      have h1 : i < (canon m l.toArray.size).size := by simp [canon]; omega
      simp only [canon]
      rw [Array.getD_eq_getD_getElem?]
      simp [List.getElem?_append_left, hi]
    have hfl : flatL A (fun i => (canon m l.toArray.size).getD i true) gh (List.range m) = flatL A (fun _ => true) gh (List.range m) := flatL_congr fun j hj => ⟨hcan j (List.mem_range.1 hj), rfl⟩
    rw [hfl, newV_eq] at hH
    refine wpAny_monoQ (Q' := Qn Q) (fun x a w (h : x = .normal ∧ Q .normal a w) => by obtain ⟨rfl, h⟩ := h; exact h) _ _ _ _ ?_
    have hsz : l.toArray.size = l.length := by simp
    rw [hsz]
    exact htail gh a w (slotsV_get hF fun i hi d hd' => hsl i (List.mem_range.1 hi) (hcan i (List.mem_range.1 hi)) d hd') hH
  have hstart : Inv (Array.replicate l.toArray.size false) a0 { w0 with drawn := w0.drawn + 1 } := by
    refine ⟨fun _ => gh0, hF0, fun i hi hl => (by rw [hfalse i hi] at hl; cases hl), ?_⟩
    have : flatL A (fun i => (Array.replicate l.toArray.size false).getD i true) (fun _ => gh0) (List.range m) = [] := by
      have key : ∀ is : List Nat, (∀ i, i ∈ is → i < m) → flatL A (fun i => (Array.replicate l.toArray.size false).getD i true) (fun _ => gh0) is = [] := by
        intro is
        induction is with
        | nil => intro _; rfl
        | cons i is ih => intro h; simp only [flatL]; rw [hfalse i (h i (by simp)), ih (fun j hj => h j (by simp [hj]))]; rfl
      exact key _ (fun i hi => List.mem_range.1 hi)
    rw [this]
    exact hH0'
  refine wp_region_any hm ?_
  have key := wpAny_par3 (P := P) (Q := Q) hB Inv hstp hfin (left (Array.replicate l.toArray.size false) m) (Array.replicate l.toArray.size false) a0 { w0 with drawn := w0.drawn + 1 }
    ⟨by simp, fun j oj _ hl => (by rw [getD_replicate_false] at hl; cases hl), fun t _ ht => getD_in (by simpa using ht) (getD_replicate_false _ _)⟩ rfl hstart
  have hl : left (Array.replicate l.toArray.size false) m = m := by
    have : ∀ k, k ≤ m → left (Array.replicate l.toArray.size false) k = k := by
      intro k
      induction k with
      | zero => intro _; rfl
      | succ k ih => intro hk; simp only [left]; rw [ih (by omega), hfalse k (by omega)]; rfl
    exact this m (Nat.le_refl _)
  rw [hl, show m + (l.toArray.size - m) = l.toArray.size by omega] at key
  exact key
/-- the head begins -/
theorem CJ.head (pre : List (List Nat)) (hp : preB l.toArray pre l.length = true) (h : HJ P id l Q n B H0 us H L pre l 0 []) : CJ P (.region id l.toArray true) Q n B H0 us H L := h rfl hp (fun i _ hi _ => by omega)
end
end
end Go.Proofs.YtbjhllmcnfncdaaDoor.G
