/- The rules of a small program logic over the model, for all programs: what the temporaries hold, what the memory holds, and one rule for each kind of operation. No condition. -/
import Derived.WalkKit
import Derived.KernelRfl
namespace Go.Proofs.YtbjhllmcnfncdaaDoor.G
open Go Go.RowKit

/-! ### what the temporaries hold -/
def lk : List (Nat × Value) → Nat → Option Value
  | [], _ => none
  | (k, v) :: us, j => bif Nat.beq k j then some v else lk us j

structure Fr (n : Nat) (us : List (Nat × Value)) (a : Act) : Prop where
  size : a.tmps.size = n
  defers : a.defers = []
  get : ∀ j v, lk us j = some v → a.tmps.getD j undef = v

def opv (us : List (Nat × Value)) : Operand → Option Value
  | .tmp j => lk us j
  | .const v => some v
  | .global g => some (.pointer (some ⟨g, 0, none⟩))
  | .func f => some (.func (.func f) #[] #[])

def opvs (us : List (Nat × Value)) : List Operand → Option (List Value)
  | [] => some []
  | x :: xs => match opv us x, opvs us xs with
    | some v, some vs => some (v :: vs)
    | _, _ => none

theorem Fr.ev {n : Nat} {us : List (Nat × Value)} {a : Act} (h : Fr n us a) {x : Operand} {v : Value} (hx : opv us x = some v) : a.eval x = v := by
  cases x with
  | tmp j => exact h.get j v hx
  | const c => simpa [opv, Act.eval] using hx
  | global g => simpa [opv, Act.eval] using hx
  | func f => simpa [opv, Act.eval] using hx

theorem Fr.evs {n : Nat} {us : List (Nat × Value)} {a : Act} (h : Fr n us a) : ∀ {xs : List Operand} {vs : List Value}, opvs us xs = some vs → xs.map a.eval = vs
  | [], vs, hx => by simp [opvs] at hx; simp [hx]
  | x :: xs, vs, hx => by
    simp only [opvs] at hx
    cases h1 : opv us x with
    | none => simp [h1] at hx
    | some v =>
      cases h2 : opvs us xs with
      | none => simp [h1, h2] at hx
      | some ws =>
        simp [h1, h2] at hx
        subst hx
        simp [h.ev h1, h.evs h2]

theorem Fr.put {n : Nat} {us : List (Nat × Value)} {a : Act} (h : Fr n us a) {d : Nat} (hd : Nat.blt d n = true) (v : Value) : Fr n ((d, v) :: us) (a.put (some d) v) := by
  have hd' : d < n := Nat.le_of_ble_eq_true hd
  refine ⟨by simp [Act.put, h.size], by simp [Act.put, h.defers], fun j u hj => ?_⟩
  simp only [lk] at hj
  by_cases e : d = j
  · subst e
    simp at hj
    subst hj
    simp [Act.put, Array.getD_eq_getD_getElem?, h.size, hd']
  · have eb : Nat.beq d j = false := by
      cases hb : Nat.beq d j with
      | false => rfl
      | true => exact absurd (Nat.eq_of_beq_eq_true hb) e
    rw [eb] at hj
    have := h.get j u hj
    simp only [Act.put]
    rw [Array.getD_eq_getD_getElem?] at this ⊢
    rw [Array.getElem?_setIfInBounds_ne e]
    exact this

/-- Every entry of us' is what us tells. -/
def subB : List (Nat × Value) → List (Nat × Value) → Prop
  | [], _ => True
  | (j, v) :: us', us => lk us j = some v ∧ subB us' us

theorem Fr.sub {n : Nat} {us us' : List (Nat × Value)} {a : Act} (h : Fr n us a) (hs : subB us' us) : Fr n us' a := by
  refine ⟨h.size, h.defers, fun j v hj => ?_⟩
  induction us' with
  | nil => simp [lk] at hj
  | cons p us' ih =>
    obtain ⟨k, u⟩ := p
    simp only [lk] at hj
    cases hb : Nat.beq k j with
    | true =>
      rw [hb] at hj
      simp at hj
      subst hj
      have := Nat.eq_of_beq_eq_true hb
      subst this
      exact h.get _ _ hs.1
    | false =>
      rw [hb] at hj
      exact ih hs.2 hj

/-! ### what the memory holds -/
abbrev HP := Nat → Option Obj

/-- An assertion on some blocks. -/
structure SA where
  fp : Nat → Prop
  holds : HP → Prop
  loc : ∀ h h' : HP, (∀ b, fp b → h b = h' b) → holds h → holds h'

def obj (g : Nat) (o : Obj) : SA := ⟨fun b => b = g, fun h => h g = some o, fun h h' hb hh => by rw [← hb g rfl]; exact hh⟩

def hp (w : World) : HP := fun b => w.heap[b]?

/-- H: what doesn't change any more. -/
def Le (H H' : HP) : Prop := ∀ b o, H b = some o → H' b = some o
theorem Le.refl (H : HP) : Le H H := fun _ _ h => h
theorem Le.trans {A B C : HP} (h : Le A B) (k : Le B C) : Le A C := fun b o x => k b o (h b o x)

structure Hp (B : World) (H0 H : HP) (L : List SA) (w : World) : Prop where
  below : Below B.heap.size B w
  agree : ∀ b o, H b = some o → hp w b = some o
  old : ∀ b, b < B.heap.size → H b = H0 b
  le : Le H0 H
  objs : ∀ A, A ∈ L → A.holds (hp w) ∧ ∀ b, A.fp b → B.heap.size ≤ b ∧ b < w.heap.size ∧ H b = none
  sep : L.Pairwise fun A A' => ∀ b, A.fp b → ¬ A'.fp b

theorem hp_lt {w : World} {b : Nat} {o : Obj} (h : hp w b = some o) : b < w.heap.size := (Array.getElem?_eq_some_iff.1 h).1

theorem Hp.start {H : HP} {w : World} (h : ∀ b o, H b = some o → hp w b = some o) : Hp w H H [] w :=
  ⟨Below.refl _ _, h, fun _ _ => rfl, Le.refl _, fun _ h => by simp at h, List.Pairwise.nil⟩

/-- w' differs from w in blocks of F and in new ones alone. -/
structure Chg (F : Nat → Prop) (w w' : World) : Prop where
  os : w'.os = w.os
  tape : w'.tape = w.tape
  output : w'.output = w.output
  size : w.heap.size ≤ w'.heap.size
  same : ∀ b, b < w.heap.size → ¬ F b → hp w' b = hp w b

theorem Chg.below {F : Nat → Prop} {w w' : World} (h : Chg F w w') {B : World} (hb : Below B.heap.size B w) (hF : ∀ b, F b → B.heap.size ≤ b) : Below B.heap.size B w' :=
  hb.trans ⟨h.os, h.tape, h.output, h.size, fun k hk => h.same k (Nat.lt_of_lt_of_le hk hb.size) (fun hf => by have := hF k hf; omega)⟩

/-- Which assertion of a list is taken, and the list with another one in its place. -/
inductive At : List SA → SA → SA → List SA → Prop
  | z {A A' : SA} {L : List SA} : At (A :: L) A A' (A' :: L)
  | s {X A A' : SA} {L L' : List SA} : At L A A' L' → At (X :: L) A A' (X :: L')

theorem At.mem {L L' : List SA} {A A' : SA} (h : At L A A' L') : A ∈ L := by
  induction h with
  | z => simp
  | s _ ih => simp [ih]

theorem At.split {L L' : List SA} {A A' : SA} (h : At L A A' L') : ∃ L1 L2, L = L1 ++ A :: L2 ∧ L' = L1 ++ A' :: L2 := by
  induction h with
  | z => exact ⟨[], _, rfl, rfl⟩
  | @s X _ _ _ _ _ ih =>
    obtain ⟨L1, L2, e1, e2⟩ := ih
    exact ⟨X :: L1, L2, by rw [e1]; rfl, by rw [e2]; rfl⟩

theorem Hp.upd {B : World} {H0 H : HP} {L L' : List SA} {A A' : SA} {w w' : World} (h : Hp B H0 H L w) (hat : At L A A' L') (hc : Chg A.fp w w')
    (hA : A'.holds (hp w')) (hfp : ∀ b, A'.fp b → (A.fp b ∨ w.heap.size ≤ b) ∧ b < w'.heap.size) : Hp B H0 H L' w' := by
  obtain ⟨L1, L2, rfl, rfl⟩ := hat.split
  have hmem : A ∈ L1 ++ A :: L2 := by simp
  have hAo := h.objs A hmem
  have hnone : ∀ b, w.heap.size ≤ b → H b = none := fun b hb => by
    cases e : H b with
    | none => rfl
    | some o => have := hp_lt (h.agree b o e); omega
  have hsep := h.sep
  rw [List.pairwise_append] at hsep
  obtain ⟨s1, s2, s3⟩ := hsep
  rw [List.pairwise_cons] at s2
  refine ⟨hc.below h.below (fun b hb => (hAo.2 b hb).1), fun b o hb => ?_, h.old, h.le, fun X hX => ?_, ?_⟩
  · rw [hc.same b (hp_lt (h.agree b o hb)) (fun hf => by rw [(hAo.2 b hf).2.2] at hb; cases hb)]
    exact h.agree b o hb
  · rcases List.mem_append.1 hX with hX | hX
    · have hX' := h.objs X (by simp [hX])
      refine ⟨X.loc _ _ (fun b hb => (hc.same b (hX'.2 b hb).2.1 (fun hf => s3 X hX A (by simp) b hb hf)).symm) hX'.1, fun b hb => ?_⟩
      exact ⟨(hX'.2 b hb).1, Nat.lt_of_lt_of_le (hX'.2 b hb).2.1 hc.size, (hX'.2 b hb).2.2⟩
    · rcases List.mem_cons.1 hX with rfl | hX
      · refine ⟨hA, fun b hb => ?_⟩
        obtain ⟨h1, h2⟩ := hfp b hb
        rcases h1 with h1 | h1
        · exact ⟨(hAo.2 b h1).1, h2, (hAo.2 b h1).2.2⟩
        · exact ⟨Nat.le_trans h.below.size h1, h2, hnone b h1⟩
      · have hX' := h.objs X (by simp [hX])
        refine ⟨X.loc _ _ (fun b hb => (hc.same b (hX'.2 b hb).2.1 (fun hf => s2.1 X hX b hf hb)).symm) hX'.1, fun b hb => ?_⟩
        exact ⟨(hX'.2 b hb).1, Nat.lt_of_lt_of_le (hX'.2 b hb).2.1 hc.size, (hX'.2 b hb).2.2⟩
  · have hlt : ∀ X, X ∈ L1 ++ A :: L2 → ∀ b, X.fp b → b < w.heap.size := fun X hX b hb => ((h.objs X hX).2 b hb).2.1
    rw [List.pairwise_append]
    refine ⟨s1, ?_, fun X hX Y hY b hb => ?_⟩
    · rw [List.pairwise_cons]
      refine ⟨fun Y hY b hb hY' => ?_, s2.2⟩
      rcases (hfp b hb).1 with h1 | h1
      · exact s2.1 Y hY b h1 hY'
      · have := hlt Y (by simp [hY]) b hY'; omega
    · rcases List.mem_cons.1 hY with rfl | hY
      · intro hY'
        rcases (hfp b hY').1 with h1 | h1
        · exact s3 X hX A (by simp) b hb h1
        · have := hlt X (by simp [hX]) b hb; omega
      · exact s3 X hX Y (by simp [hY]) b hb

theorem Hp.new {B : World} {H0 H : HP} {L : List SA} {A : SA} {w w' : World} (h : Hp B H0 H L w) (hc : Chg (fun _ => False) w w')
    (hA : A.holds (hp w')) (hfp : ∀ b, A.fp b → w.heap.size ≤ b ∧ b < w'.heap.size) : Hp B H0 H (A :: L) w' := by
  have hnone : ∀ b, w.heap.size ≤ b → H b = none := fun b hb => by
    cases e : H b with
    | none => rfl
    | some o => have := hp_lt (h.agree b o e); omega
  refine ⟨hc.below h.below (fun b hb => hb.elim), fun b o hb => ?_, h.old, h.le, fun X hX => ?_, ?_⟩
  · rw [hc.same b (hp_lt (h.agree b o hb)) id]
    exact h.agree b o hb
  · rcases List.mem_cons.1 hX with rfl | hX
    · exact ⟨hA, fun b hb => ⟨Nat.le_trans h.below.size (hfp b hb).1, (hfp b hb).2, hnone b (hfp b hb).1⟩⟩
    · have hX' := h.objs X hX
      refine ⟨X.loc _ _ (fun b hb => (hc.same b (hX'.2 b hb).2.1 id).symm) hX'.1, fun b hb => ?_⟩
      exact ⟨(hX'.2 b hb).1, Nat.lt_of_lt_of_le (hX'.2 b hb).2.1 hc.size, (hX'.2 b hb).2.2⟩
  · rw [List.pairwise_cons]
    refine ⟨fun X hX b hb hX' => ?_, h.sep⟩
    have := ((h.objs X hX).2 b hX').2.1
    have := (hfp b hb).1
    omega

theorem Hp.chg0 {B : World} {H0 H : HP} {L : List SA} {w w' : World} (h : Hp B H0 H L w) (hc : Chg (fun _ => False) w w') : Hp B H0 H L w' := by
  refine ⟨hc.below h.below (fun b hb => hb.elim), fun b o hb => ?_, h.old, h.le, fun X hX => ?_, h.sep⟩
  · rw [hc.same b (hp_lt (h.agree b o hb)) id]
    exact h.agree b o hb
  · have hX' := h.objs X hX
    refine ⟨X.loc _ _ (fun b hb => (hc.same b (hX'.2 b hb).2.1 id).symm) hX'.1, fun b hb => ?_⟩
    exact ⟨(hX'.2 b hb).1, Nat.lt_of_lt_of_le (hX'.2 b hb).2.1 hc.size, (hX'.2 b hb).2.2⟩

theorem Hp.tail {B : World} {H0 H : HP} {L : List SA} {A : SA} {w : World} (h : Hp B H0 H (A :: L) w) : Hp B H0 H L w :=
  ⟨h.below, h.agree, h.old, h.le, fun X hX => h.objs X (List.mem_cons_of_mem _ hX), (List.pairwise_cons.1 h.sep).2⟩

/-- Assertions are forgotten. -/
theorem Hp.sublist {B : World} {H0 H : HP} {L L' : List SA} {w : World} (h : Hp B H0 H L w) (hs : L'.Sublist L) : Hp B H0 H L' w :=
  ⟨h.below, h.agree, h.old, h.le, fun X hX => h.objs X (hs.subset hX), h.sep.sublist hs⟩

/-- The first assertion gets fixed. -/
theorem Hp.freeze {B : World} {H0 H : HP} {L : List SA} {g : Nat} {o : Obj} {w : World} (h : Hp B H0 H (obj g o :: L) w) :
    Hp B H0 (fun b => if b = g then some o else H b) L w ∧ Le H (fun b => if b = g then some o else H b) := by
  have hg := h.objs _ (List.mem_cons_self)
  have hgn := (hg.2 g rfl)
  have hle : Le H (fun b => if b = g then some o else H b) := fun b o' hb => by
    by_cases e : b = g
    · subst e; rw [hgn.2.2] at hb; cases hb
    · simp [e, hb]
  refine ⟨⟨h.below, fun b o' hb => ?_, fun b hb => ?_, h.le.trans hle, fun X hX => ?_, (List.pairwise_cons.1 h.sep).2⟩, hle⟩
  · by_cases e : b = g
    · subst e
      simp at hb
      subst hb
      exact hg.1
    · simp [e] at hb
      exact h.agree b o' hb
  · have : b ≠ g := by have := hgn.1; omega
    simp [this]
    exact h.old b hb
  · have hX' := h.objs X (List.mem_cons_of_mem _ hX)
    refine ⟨hX'.1, fun b hb => ⟨(hX'.2 b hb).1, (hX'.2 b hb).2.1, ?_⟩⟩
    have : b ≠ g := fun e => (List.pairwise_cons.1 h.sep).1 X hX g rfl (e ▸ hb)
    simp [this]
    exact (hX'.2 b hb).2.2

/-! ### the judgements: what is to be shown from a symbolic state on -/
def J (P : Program) (ops : Array Oper) (Q : Exit → Act → World → Prop) (n : Nat) (B : World) (H0 : HP) (rest : List Oper) (us : List (Nat × Value)) (H : HP) (L : List SA) : Prop :=
  ∀ a w, Fr n us a → Hp B H0 H L w → wpList P ops Q rest a w
def CJ (P : Program) (c : Code) (Q : Exit → Act → World → Prop) (n : Nat) (B : World) (H0 : HP) (us : List (Nat × Value)) (H : HP) (L : List SA) : Prop :=
  ∀ a w, Fr n us a → Hp B H0 H L w → c.wp P Q a w
/-- The state when something is left: what is told of the frame and the world. -/
def EJ (R : Act → World → Prop) (n : Nat) (B : World) (H0 : HP) (us : List (Nat × Value)) (H : HP) (L : List SA) : Prop :=
  ∀ a w, Fr n us a → Hp B H0 H L w → R a w

section rules
variable {P : Program} {ops : Array Oper} {Q : Exit → Act → World → Prop} {n : Nat} {B : World} {H0 H : HP} {rest : List Oper} {us : List (Nat × Value)} {L : List SA}

theorem CJ.seq {x y : Code} (h : ∀ K : Act → World → Prop, (∀ {us : List (Nat × Value)} {H : HP} {L : List SA}, CJ P y Q n B H0 us H L → EJ K n B H0 us H L) → (∀ a w, y.wp P Q a w → K a w) → CJ P x (Exit.then K Q) n B H0 us H L) :
    CJ P (.seq x y) Q n B H0 us H L := fun a w hF hH => wp_seq_k fun K hK => h K (fun hy a w hF hH => hK a w (hy a w hF hH)) hK a w hF hH

/-- The ways through x meet again. -/
theorem CJ.cut {x y : Code} (R : Act → World → Prop) (h1 : CJ P x (Exit.then R Q) n B H0 us H L) (h2 : ∀ a w, R a w → y.wp P Q a w) : CJ P (.seq x y) Q n B H0 us H L :=
  fun a w hF hH => wp_seq_k fun K hK => wp_mono (h1 a w hF hH) fun e a' w' q => by
    cases e <;> first | exact hK _ _ (h2 _ _ q) | exact q

theorem CJ.of {c : Code} {a : Act} {w : World} (hF : Fr n us a) (hH : Hp B H0 H L w) (h : CJ P c Q n B H0 us H L) : c.wp P Q a w := h a w hF hH
theorem EJ.of {R : Act → World → Prop} {a : Act} {w : World} (hF : Fr n us a) (hH : Hp B H0 H L w) (h : EJ R n B H0 us H L) : R a w := h a w hF hH
theorem J.of {a : Act} {w : World} (hF : Fr n us a) (hH : Hp B H0 H L w) (h : J P ops Q n B H0 rest us H L) : wpList P ops Q rest a w := h a w hF hH

theorem CJ.region {id : Nat} {l : List Oper} (h : J P l.toArray Q n B H0 l us H L) : CJ P (.region id l.toArray false) Q n B H0 us H L :=
  fun a w hF hH => wp_region_lit (h a w hF hH)
theorem J.nil (h : EJ (Q .normal) n B H0 us H L) : J P ops Q n B H0 [] us H L := h
theorem CJ.skip (h : EJ (Q .normal) n B H0 us H L) : CJ P .skip Q n B H0 us H L := fun a w hF hH => wp_skip (h a w hF hH)
theorem CJ.exit {id : Nat} (h : EJ (Q (.exit id)) n B H0 us H L) : CJ P (.exit id) Q n B H0 us H L := fun a w hF hH => wp_exit (h a w hF hH)
theorem CJ.ret (h : EJ (Q .ret) n B H0 us H L) : CJ P .ret Q n B H0 us H L := fun a w hF hH => wp_ret (h a w hF hH)
theorem CJ.block {id : Nat} {c : Code} (h : CJ P c (Exit.inBlock id Q) n B H0 us H L) : CJ P (.block id c) Q n B H0 us H L := fun a w hF hH => wp_block (h a w hF hH)

theorem CJ.cond {c : Operand} {x y : Code} {b : Bool} (hc : opv us c = some (.bool b)) (ht : b = true → CJ P x Q n B H0 us H L) (hf : b = false → CJ P y Q n B H0 us H L) :
    CJ P (.cond c x y) Q n B H0 us H L := fun a w hF hH => wp_cond_split (hF.ev hc) (fun h => ht h a w hF hH) (fun h => hf h a w hF hH)
/-- The test as a proposition. -/
theorem CJ.condP {c : Operand} {x y : Code} {b : Bool} (p : Prop) (hc : opv us c = some (.bool b)) (hp : b = true ↔ p) (ht : p → CJ P x Q n B H0 us H L) (hf : ¬ p → CJ P y Q n B H0 us H L) :
    CJ P (.cond c x y) Q n B H0 us H L := CJ.cond hc (fun h => ht (hp.1 h)) (fun h => hf (fun h' => by rw [hp.2 h'] at h; cases h))
theorem CJ.condD {c : Operand} {x y : Code} {p : Prop} {inst : Decidable p} (hc : opv us c = some (.bool (@decide p inst))) (ht : p → CJ P x Q n B H0 us H L) (hf : ¬ p → CJ P y Q n B H0 us H L) :
    CJ P (.cond c x y) Q n B H0 us H L := CJ.cond hc (fun h => ht (of_decide_eq_true h)) (fun h => hf (of_decide_eq_false h))

/-- A loop: I tells what holds at the head, with a number that each round lowers. -/
theorem CJ.loop {c : Code} (I : Nat → Act → World → Prop) (h0 : EJ (fun a w => ∃ m, I m a w) n B H0 us H L)
    (round : ∀ m a w, I m a w → c.wp P (Exit.then (fun a' w' => ∃ m', m' < m ∧ I m' a' w') Q) a w) : CJ P (.loop c) Q n B H0 us H L := by
  intro a w hF hH
  obtain ⟨m0, hI⟩ := h0 a w hF hH
  intro b k cs
  have key : ∀ m a w, I m a w → ∃ e a' w', Q e a' w' ∧ Arrives P (lone (b.at a (.code c :: .inLoop c :: k)) cs w) b k cs e a' w' := by
    intro m
    induction m using Nat.strongRecOn with
    | _ m ih =>
      intro a w hI
      obtain ⟨e, a₁, w₁, hq, harr⟩ := round m a w hI b (.inLoop c :: k) cs
      cases e with
      | normal =>
        obtain ⟨m', hlt, hI₁⟩ := hq
        obtain ⟨e₂, a₂, w₂, hq₂, harr₂⟩ := ih m' hlt a₁ w₁ hI₁
        exact ⟨e₂, a₂, w₂, hq₂, .of_steps (Steps.trans harr (.one step_inLoop)) harr₂⟩
      | exit id => exact ⟨_, a₁, w₁, hq, .pass (x := .inLoop c) rfl (fun _ _ => .inl (by simp)) harr⟩
      | goto l => exact ⟨_, a₁, w₁, hq, .pass (x := .inLoop c) rfl (fun _ _ => .inl (by simp)) harr⟩
      | ret => exact ⟨_, a₁, w₁, hq, .pass (x := .inLoop c) rfl (fun _ _ => .inl (by simp)) harr⟩
      | panic ch => exact ⟨_, a₁, w₁, hq, .pass (x := .inLoop c) rfl (fun _ _ => .inl (by simp)) harr⟩
      | outgrown => exact ⟨_, a₁, w₁, hq, .pass (x := .inLoop c) rfl (fun _ _ => .inl (by simp)) harr⟩
  obtain ⟨e, a', w', hq, harr⟩ := key m0 a w hI
  exact ⟨e, a', w', hq, .of_steps (.one step_loop) harr⟩

/-- A call's begin. -/
theorem CJ.enter {f : FuncId} {fn : Func} {c : Code} {args : List Value} {w : World} {R : Ending → World → Prop} (hf : P.funcs[f]? = some fn) (hb : fn.body = some c)
    (n : Nat) (hn : fn.ntmps = n) (hl : Nat.ble args.length n = true) (us : List (Nat × Value)) (hus : (args.zipIdx.map fun p => (p.2, p.1)) = us) (hH : Hp B H0 H L w) (h : CJ P c (bodyPost P fn R) n B H0 us H L) : Calls P f args.toArray w R := by
  subst hus
  have hl := Nat.le_of_ble_eq_true hl
  refine calls_of_wp hf hb (h _ w ⟨by simp [hn]; omega, rfl, fun j v hj => ?_⟩ hH)
  have key : ∀ (l : List Value) (k : Nat), lk ((l.zipIdx k).map fun p => (p.2, p.1)) j = some v → k ≤ j ∧ l[j - k]? = some v := by
    intro l
    induction l with
    | nil => intro k h; simp [lk] at h
    | cons x l ih =>
      intro k h
      simp only [List.zipIdx_cons, List.map_cons, lk] at h
      cases hb : Nat.beq k j with
      | true =>
        rw [hb] at h
        have := Nat.eq_of_beq_eq_true hb
        subst this
        simp at h
        subst h
        simp
      | false =>
        rw [hb] at h
        obtain ⟨h1, h2⟩ := ih (k + 1) h
        refine ⟨by omega, ?_⟩
        rw [show j - k = (j - (k + 1)) + 1 by omega]
        simpa using h2
  obtain ⟨_, h2⟩ := key args 0 hj
  simp only [Nat.sub_zero] at h2
  have hlt : j < args.length := (List.getElem?_eq_some_iff.1 h2).1
  rw [Array.getD_eq_getD_getElem?, Array.getElem?_append_left (by simpa using hlt)]
  simp [h2]

/-! ### operations: the general rules -/
theorem J.val {op : Op} {t : TypeId} {p : String} {af : Array Edge} {d : Nat} (hd : Nat.blt d n = true)
    (hrun : ∀ (a : Act) (w : World), Fr n us a → Hp B H0 H L w → ∃ v w', (execOp a.eval ⟨some d, op, t, p, af, none⟩).run P w = .ok (.value v) w' ∧ ∀ a', Fr n ((d, v) :: us) a' → wpList P ops Q rest a' w') :
    J P ops Q n B H0 (⟨some d, op, t, p, af, none⟩ :: rest) us H L := by
  intro a w hF hH
  obtain ⟨v, w', hr, hk⟩ := hrun a w hF hH
  refine wpList_plain rfl fun K hK => ?_
  unfold Oper.wp
  rw [hr]
  exact hK _ _ (hk _ (hF.put hd v))
theorem J.pure {op : Op} {t : TypeId} {p : String} {af : Array Edge} {d : Nat} (v : Value) (hd : Nat.blt d n = true)
    (hrun : ∀ (a : Act) (w : World), Fr n us a → (execOp a.eval ⟨some d, op, t, p, af, none⟩).run P w = .ok (.value v) w)
    (k : J P ops Q n B H0 rest ((d, v) :: us) H L) : J P ops Q n B H0 (⟨some d, op, t, p, af, none⟩ :: rest) us H L :=
  J.val hd fun a w hF hH => ⟨v, w, hrun a w hF, fun a' hF' => k a' w hF' hH⟩
theorem J.unit {op : Op} {t : TypeId} {p : String} {af : Array Edge}
    (hrun : ∀ (a : Act) (w : World), Fr n us a → Hp B H0 H L w → ∃ w', (execOp a.eval ⟨none, op, t, p, af, none⟩).run P w = .ok .skip w' ∧ wpList P ops Q rest a w') :
    J P ops Q n B H0 (⟨none, op, t, p, af, none⟩ :: rest) us H L := by
  intro a w hF hH
  obtain ⟨w', hr, hk⟩ := hrun a w hF hH
  refine wpList_plain rfl fun K hK => ?_
  unfold Oper.wp
  rw [hr]
  exact hK _ _ hk

section
variable {t : TypeId} {p : String} {af : Array Edge} {d : Nat}

theorem J.move {x : Operand} {v : Value} (hx : opv us x = some v) (hd : Nat.blt d n = true) (k : J P ops Q n B H0 rest ((d, v) :: us) H L) :
    J P ops Q n B H0 (⟨some d, .move x, t, p, af, none⟩ :: rest) us H L := J.pure v hd (fun a w hF => by simp [execOp, hF.ev hx]) k
theorem J.assign {x : Operand} {v : Value} (hx : opv us x = some v) (hd : Nat.blt d n = true) (k : J P ops Q n B H0 rest ((d, v) :: us) H L) :
    J P ops Q n B H0 (⟨some d, .assign x, t, p, af, none⟩ :: rest) us H L := J.pure v hd (fun a w hF => by simp [execOp, hF.ev hx]) k
end
end rules
end Go.Proofs.YtbjhllmcnfncdaaDoor.G
