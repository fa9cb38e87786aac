/- How the program's data lie in memory: lists of numbers, terms, forms, algebras. No condition. -/
import Derived.Test.YtbjhllmcnfncdaaDoorGFlow
import Derived.Still
namespace Go.Proofs.YtbjhllmcnfncdaaDoor.G
open Go Go.RowKit

theorem cellO_some {H : HP} {q : Option Addr} {k : Nat} {v : Value} (h : cellO H q k = some v) : q.isSome = true := by
  cases q with
  | none => simp [cellO] at h
  | some p => rfl

/-- numbers in line -/
def Ints (H : HP) (q : Option Addr) (xs : List Int) : Prop := ∀ i, i < xs.length → cellO H q i = some (.int .i64 (xs.getD i 0))
theorem Ints.le {H H' : HP} {q : Option Addr} {xs : List Int} (h : Ints H q xs) (hle : Le H H') : Ints H' q xs := fun i hi => cellO_le hle (h i hi)
theorem Ints.sm {H : HP} {q : Option Addr} {xs : List Int} (h : Ints H q xs) {i : Nat} (hi : i < xs.length) : q.isSome = true := cellO_some (h i hi)
theorem Ints.of {H : HP} {q : Option Addr} {xs : List Int} (h : ∀ j v, (xs.map (Value.int .i64))[j]? = some v → cellO H q j = some v) : Ints H q xs :=
  fun i hi => h i _ (by rw [List.getElem?_map, List.getElem?_eq_getElem hi, List.getD_eq_getElem?_getD, List.getElem?_eq_getElem hi]; rfl)

/-- bytes as an array's cells -/
def bytesC (m : List Int) : List Value := m.map (Value.int .u8)
def intsC (m : List Int) : List Value := m.map (Value.int .i64)
@[simp] theorem bytesC_length (m : List Int) : (bytesC m).length = m.length := by simp [bytesC]
@[simp] theorem intsC_length (m : List Int) : (intsC m).length = m.length := by simp [intsC]
theorem bytesC_get {m : List Int} {i : Nat} (h : i < m.length) : (bytesC m)[i]? = some (.int .u8 (m.getD i 0)) := by
  simp [bytesC, List.getElem?_eq_getElem h, List.getD_eq_getElem?_getD]
theorem intsC_get {m : List Int} {i : Nat} (h : i < m.length) : (intsC m)[i]? = some (.int .i64 (m.getD i 0)) := by
  simp [intsC, List.getElem?_eq_getElem h, List.getD_eq_getElem?_getD]
theorem bytesC_set (m : List Int) (i : Nat) (x : Int) : (bytesC m).set i (.int .u8 x) = bytesC (m.set i x) := by simp [bytesC, List.map_set]
theorem intsC_set (m : List Int) (i : Nat) (x : Int) : (intsC m).set i (.int .i64 x) = intsC (m.set i x) := by simp [intsC, List.map_set]
theorem bytesC_one (m : List Int) : ∀ u ∈ bytesC m, u.oneCell' = true := by
  intro u hu
  simp [bytesC] at hu
  obtain ⟨x, _, rfl⟩ := hu
  rfl
theorem intsC_one (m : List Int) : ∀ u ∈ intsC m, u.oneCell' = true := by
  intro u hu
  simp [intsC] at hu
  obtain ⟨x, _, rfl⟩ := hu
  rfl

/-- A monomial: eight bytes. -/
structure Mono (m : List Int) : Prop where
  len : m.length = 8
  bd : ∀ i, 0 ≤ m.getD i 0 ∧ m.getD i 0 ≤ 255
structure Term where
  mono : List Int
  fac : Int
def Term.c (t : Term) : List Value := bytesC t.mono ++ [.int .i64 t.fac]
structure Term.wf (t : Term) : Prop where
  mono : Mono t.mono
  fac : -9223372036854775808 ≤ t.fac ∧ t.fac ≤ 9223372036854775807
instance : Inhabited Term := ⟨⟨[0, 0, 0, 0, 0, 0, 0, 0], 0⟩⟩
theorem Term.c_length {t : Term} (h : t.wf) : t.c.length = 9 := by simp [Term.c, h.mono.len]
theorem Term.c_one (t : Term) : ∀ u ∈ t.c, u.oneCell' = true := by
  intro u hu
  simp only [Term.c, List.mem_append, List.mem_singleton] at hu
  rcases hu with hu | rfl
  · exact bytesC_one _ u hu
  · rfl
/-- terms in line -/
def tm (ts : List Term) (i : Nat) : Term := ts.getD i default
structure Terms (H : HP) (q : Option Addr) (ts : List Term) : Prop where
  wf : ∀ i, i < ts.length → (tm ts i).wf
  cell : ∀ i, i < ts.length → ∀ j v, ((tm ts i).c)[j]? = some v → cellO H q (i * 9 + j) = some v
theorem Terms.le {H H' : HP} {q : Option Addr} {ts : List Term} (h : Terms H q ts) (hle : Le H H') : Terms H' q ts := ⟨h.wf, fun i hi j v hj => cellO_le hle (h.cell i hi j v hj)⟩
theorem Terms.fac {H : HP} {q : Option Addr} {ts : List Term} (h : Terms H q ts) {i : Nat} (hi : i < ts.length) : cellO H q (i * 9 + 8) = some (.int .i64 (tm ts i).fac) :=
  h.cell i hi 8 _ (by
    have := (h.wf i hi).mono.len
    simp only [Term.c]
    rw [List.getElem?_append_right (by simp [this])]
    simp [this])
theorem Terms.sm {H : HP} {q : Option Addr} {ts : List Term} (h : Terms H q ts) {i : Nat} (hi : i < ts.length) : q.isSome = true := cellO_some (h.fac hi)
theorem Terms.byte {H : HP} {q : Option Addr} {ts : List Term} (h : Terms H q ts) {i : Nat} (hi : i < ts.length) {j : Nat} (hj : j < 8) : cellO H q (i * 9 + j) = some (.int .u8 ((tm ts i).mono.getD j 0)) :=
  h.cell i hi j _ (by
    have := (h.wf i hi).mono.len
    simp only [Term.c]
    rw [List.getElem?_append_left (by simp [this]; omega)]
    exact bytesC_get (by omega))
theorem Terms.mono {H : HP} {q : Option Addr} {ts : List Term} (h : Terms H q ts) {i : Nat} (hi : i < ts.length) : ∀ j v, (bytesC (tm ts i).mono)[j]? = some v → cellO H q (i * 9 + j) = some v := fun j v hj => by
  have hl := (List.getElem?_eq_some_iff.1 hj).1
  refine h.cell i hi j v ?_
  simp only [Term.c]
  rw [List.getElem?_append_left hl]
  exact hj

/-- A form is the slice of its terms. -/
structure FormR (H : HP) (v : Value) (ts : List Term) : Prop where
  ex : ∃ q c, v = .slice q ts.length c ∧ ts.length ≤ c ∧ Terms H q ts
theorem FormR.le {H H' : HP} {v : Value} {ts : List Term} (h : FormR H v ts) (hle : Le H H') : FormR H' v ts := by
  obtain ⟨q, c, h1, h2, h3⟩ := h.ex
  exact ⟨q, c, h1, h2, h3.le hle⟩
def fm (fs : List (List Term)) (i : Nat) : List Term := fs.getD i []
/-- forms in line -/
def Forms (H : HP) (q : Option Addr) (fs : List (List Term)) : Prop := ∀ i, i < fs.length → ∃ q' c', cellO H q i = some (.slice q' (fm fs i).length c') ∧ (fm fs i).length ≤ c' ∧ Terms H q' (fm fs i)
theorem Forms.le {H H' : HP} {q : Option Addr} {fs : List (List Term)} (h : Forms H q fs) (hle : Le H H') : Forms H' q fs := fun i hi => by
  obtain ⟨q', c', h1, h2, h3⟩ := h i hi
  exact ⟨q', c', cellO_le hle h1, h2, h3.le hle⟩
theorem Forms.sm {H : HP} {q : Option Addr} {fs : List (List Term)} (h : Forms H q fs) {i : Nat} (hi : i < fs.length) : q.isSome = true := by
  obtain ⟨_, _, h1, _⟩ := h i hi
  exact cellO_some h1
/-- rows of numbers in line -/
def rw_ (rs : List (List Int)) (i : Nat) : List Int := rs.getD i []
def RowsR (H : HP) (q : Option Addr) (rs : List (List Int)) : Prop := ∀ i, i < rs.length → ∃ q' c', cellO H q i = some (.slice q' (rw_ rs i).length c') ∧ (rw_ rs i).length ≤ c' ∧ Ints H q' (rw_ rs i)
theorem RowsR.le {H H' : HP} {q : Option Addr} {rs : List (List Int)} (h : RowsR H q rs) (hle : Le H H') : RowsR H' q rs := fun i hi => by
  obtain ⟨q', c', h1, h2, h3⟩ := h i hi
  exact ⟨q', c', cellO_le hle h1, h2, h3.le hle⟩
theorem RowsR.sm {H : HP} {q : Option Addr} {rs : List (List Int)} (h : RowsR H q rs) {i : Nat} (hi : i < rs.length) : q.isSome = true := by
  obtain ⟨_, _, h1, _⟩ := h i hi
  exact cellO_some h1

/-! ### more rules -/
section
variable {P : Program} {ops : Array Oper} {Q : Exit → Act → World → Prop} {n : Nat} {B : World} {H0 H : HP} {rest : List Oper} {us : List (Nat × Value)} {L L' : List SA} {t : TypeId} {p : String} {af : Array Edge} {d : Nat} {x y : Operand}
theorem PR.idx1 {ty e : TypeId} {k : IntKind} {q : Option Addr} {m c : Nat} {i : Int} {i' : Nat} (hu : P.underlying ty = some (.slice e)) (hs : Size P e 1) (hx : opv us x = some (.slice q m c)) (hy : opv us y = some (.int k i)) (hi : i = (i' : Int)) (hl : i' < m) (hq : i' < m → q.isSome = true) :
    PR P n B H0 us H L (.indexAddr ty x y) t (ptr q i') := by
  have := PR.idx (P := P) (n := n) (B := B) (H0 := H0) (H := H) (L := L) (t := t) hu hs hx hy hi hl hq
  rwa [Nat.mul_one] at this
theorem PR.idxA1 {ty e : TypeId} {k : IntKind} {g m : Nat} {i : Int} {i' : Nat} (hu : P.underlying ty = some (.array m e)) (hs : Size P e 1) (hx : opv us x = some (.pointer (some ⟨g, 0, none⟩))) (hy : opv us y = some (.int k i)) (hi : i = (i' : Int)) (hl : i' < m) :
    PR P n B H0 us H L (.indexAddr ty x y) t (.pointer (some ⟨g, i', none⟩)) := by
  have := PR.idxA (P := P) (n := n) (B := B) (H0 := H0) (H := H) (L := L) (t := t) hu hs hx hy hi hl
  rwa [Nat.mul_one, Nat.zero_add] at this
theorem PR.idxP1 {ty e : TypeId} {k : IntKind} {q : Option Addr} {o m : Nat} {i : Int} {i' : Nat} (hu : P.underlying ty = some (.array m e)) (hs : Size P e 1) (hx : opv us x = some (ptr q o)) (hq : q.isSome = true) (hy : opv us y = some (.int k i)) (hi : i = (i' : Int)) (hl : i' < m) :
    PR P n B H0 us H L (.indexAddr ty x y) t (ptr q (o + i')) := by
  have := PR.idxP (P := P) (n := n) (B := B) (H0 := H0) (H := H) (L := L) (t := t) hu hs hx hq hy hi hl
  rwa [Nat.mul_one] at this
theorem J.storeB {ty e : TypeId} {g k : Nat} {m : List Int} {v : Int} (hx : opv us x = some (.pointer (some ⟨g, k, none⟩))) (hy : opv us y = some (.int .u8 v))
    (hs : Size P ty 1) (hl : k < m.length) (hat : At L (obj g (.cells (bytesC m).toArray e (0, 0))) (obj g (.cells (bytesC (m.set k v)).toArray e (0, 0))) L')
    (hk : J P ops Q n B H0 rest us H L') : J P ops Q n B H0 (⟨none, .store ty x y, t, p, af, none⟩ :: rest) us H L :=
  J.store (cs := bytesC m) hx hy rfl rfl hs (by simpa using hl) (by rw [bytesC_set]; exact hat) hk
theorem J.storeI {ty e : TypeId} {g k : Nat} {m : List Int} {v : Int} (hx : opv us x = some (.pointer (some ⟨g, k, none⟩))) (hy : opv us y = some (.int .i64 v))
    (hs : Size P ty 1) (hl : k < m.length) (hat : At L (obj g (.cells (intsC m).toArray e (0, 0))) (obj g (.cells (intsC (m.set k v)).toArray e (0, 0))) L')
    (hk : J P ops Q n B H0 rest us H L') : J P ops Q n B H0 (⟨none, .store ty x y, t, p, af, none⟩ :: rest) us H L :=
  J.store (cs := intsC m) hx hy rfl rfl hs (by simpa using hl) (by rw [intsC_set]; exact hat) hk
/-- T{} -/
theorem PR.buildZ {ty : TypeId} {cs : List Value} (hb : ∀ w, (Instr.build ty #[]).run P w = .ok (.agg cs.toArray) w) : PR P n B H0 us H L (.build ty #[]) t (.agg cs.toArray) :=
  fun _ _ _ _ a w hF _ => by simp [execOp, hb w]
theorem J.splitB {jd : Nat} {b : Bool} (hv : lk us jd = some (.bool b)) (ht : b = true → J P ops Q n B H0 rest us H L) (hf : b = false → J P ops Q n B H0 rest us H L) : J P ops Q n B H0 rest us H L := by
  cases b
  · exact hf rfl
  · exact ht rfl
/-- a region whose order is open, and whose operations change nothing -/
def JS (P : Program) (ops : Array Oper) (Q : Exit → Act → World → Prop) (n : Nat) (B : World) (H0 : HP) (rest : List Oper) (us : List (Nat × Value)) (H : HP) (L : List SA) : Prop :=
  ∀ a w, Fr n us a → Hp B H0 H L w → wpStill P ops w (fun a' => Q .normal a' w) rest a
theorem CJ.regionD {id : Nat} {l : List Oper} (hm : P.follows .mixedOrders = true) (hB : Region.lexB .any l.toArray = true) (h : JS P l.toArray Q n B H0 l us H L) : CJ P (.region id l.toArray true) Q n B H0 us H L :=
  fun a w hF hH => wp_region_still_lit hm hB (h a _ hF (hH.chg0 (w' := { w with drawn := w.drawn + 1 }) ⟨rfl, rfl, rfl, Nat.le_refl _, fun _ _ _ => rfl⟩))
theorem JS.nil (h : EJ (Q .normal) n B H0 us H L) : JS P ops Q n B H0 [] us H L := h
theorem JS.op {op : Op} {t : TypeId} {p : String} {af : Array Edge} {d : Nat} {v : Value} (h : PR P n B H0 us H L op t v) (hd : Nat.blt d n = true)
    (k : JS P ops Q n B H0 rest ((d, v) :: us) H L) : JS P ops Q n B H0 (⟨some d, op, t, p, af, none⟩ :: rest) us H L := by
  intro a w hF hH
  refine wpStill_step fun K hK => ?_
  rw [if_pos (by simp [Region.wanted])]
  unfold Oper.still
  rw [h _ _ _ _ a w hF hH]
  exact ⟨rfl, hK _ (k _ _ (hF.put hd v) hH)⟩
theorem yield_of {a : Act} {j jd : Nat} {b : Bool} (hF : Fr n us a) (hj : (ops[j]?).bind (·.dst) = some jd) (hv : lk us jd = some (.bool b)) : yielded ops a.tmps j = some b := by
  have := hF.get jd _ hv
  rw [Array.getD_eq_getD_getElem?] at this
  unfold yielded
  cases ho : ops[j]? with
  | none => simp [ho] at hj
  | some o =>
    simp [ho] at hj
    cases hq : a.tmps[jd]? with
    | none => rw [hq] at this; simp [undef] at this
    | some u => rw [hq] at this; simp at this; simp [hj, hq, this]
theorem JS.gy {op : Op} {t : TypeId} {p : String} {af : Array Edge} {d : Nat} {v : Value} {j : Nat} {want b : Bool} {jd : Nat} (h : PR P n B H0 us H L op t v) (hd : Nat.blt d n = true)
    (hj : (ops[j]?).bind (·.dst) = some jd) (hv : lk us jd = some (.bool b)) (hb : b = want)
    (k : JS P ops Q n B H0 rest ((d, v) :: us) H L) : JS P ops Q n B H0 (⟨some d, op, t, p, af, some (j, want)⟩ :: rest) us H L := by
  intro a w hF hH
  refine wpStill_step fun K hK => ?_
  rw [if_pos (by simp [Region.wanted, yield_of hF hj hv, hb])]
  unfold Oper.still
  rw [h _ _ _ _ a w hF hH]
  exact ⟨rfl, hK _ (k _ _ (hF.put hd v) hH)⟩
theorem JS.gn {op : Op} {t : TypeId} {p : String} {af : Array Edge} {d : Nat} {j : Nat} {want b : Bool} {jd : Nat} (hd : Nat.blt d n = true)
    (hj : (ops[j]?).bind (·.dst) = some jd) (hv : lk us jd = some (.bool b)) (hb : b = !want)
    (k : JS P ops Q n B H0 rest ((d, undef) :: us) H L) : JS P ops Q n B H0 (⟨some d, op, t, p, af, some (j, want)⟩ :: rest) us H L := by
  intro a w hF hH
  refine wpStill_step fun K hK => ?_
  rw [if_neg (by cases want <;> simp [Region.wanted, yield_of hF hj hv, hb])]
  exact hK _ (k _ _ (hF.put hd undef) hH)
theorem JS.splitB {jd : Nat} {b : Bool} (hv : lk us jd = some (.bool b)) (ht : b = true → JS P ops Q n B H0 rest us H L) (hf : b = false → JS P ops Q n B H0 rest us H L) : JS P ops Q n B H0 rest us H L := by
  cases b
  · exact hf rfl
  · exact ht rfl
/-- a call of a function value -/
theorem J.callV {x : Operand} {f : FuncId} {first cap : Array Value} (hfn : Fn P f) {ats : Array TypeId} {xs : List Operand} {vs : List Value} (hf : opv us x = some (.func (.func f) first cap)) (hx : opvs us xs = some vs) (hd : Nat.blt d n = true)
    (hc : ∀ w, Hp B H0 H L w → Calls P f (first ++ vs.toArray ++ cap) w fun e w' => ∃ v, e = .returned v ∧ ∀ a', Fr n ((d, v) :: us) a' → wpList P ops Q rest a' w') :
    J P ops Q n B H0 (⟨some d, .call { callee := .value x, args := xs.toArray, argTypes := ats }, t, p, af, none⟩ :: rest) us H L := by
  intro a w hF hH
  refine wpList_plain rfl fun K hK => ?_
  have hrun : (execOp a.eval ⟨some d, .call { callee := .value x, args := xs.toArray, argTypes := ats }, t, p, af, none⟩).run P w = .ok (.enter f (first ++ vs.toArray ++ cap)) w := by
    have := hF.evs hx
    simp [execOp, resolve, invoke, Deferred.ofValue, hF.ev hf, this, hfn.run]
  unfold Oper.wp
  rw [hrun, Oper.upon_enter]
  exact (hc w hH).mono fun e w' ⟨v, he, h⟩ => by subst he; exact hK _ _ (h _ (hF.put hd v))
theorem PR.makeFunc {fn : Go.Fn} {ys zs : List Operand} {vs ws : List Value} (hy : opvs us ys = some vs) (hz : opvs us zs = some ws) : PR P n B H0 us H L (.makeFunc fn ys.toArray zs.toArray) t (.func fn vs.toArray ws.toArray) :=
  fun _ _ _ _ a w hF _ => by simp [execOp, Instr.makeFunc, hF.evs hy, hF.evs hz]
theorem J.freezeRow {g : Nat} {cs : List Value} {e : TypeId} {fr : Nat × Nat} (hr : Rm L (obj g (.cells cs.toArray e fr)) L') (k : ∀ H', Le H H' → (∀ j v, cs[j]? = some v → cellO H' (some ⟨g, 0, none⟩) j = some v) → J P ops Q n B H0 rest us H' L') : J P ops Q n B H0 rest us H L := EJ.freezeRow hr k
theorem yield_un {a : Act} {j jd : Nat} (hF : Fr n us a) (hj : (ops[j]?).bind (·.dst) = some jd) (hv : lk us jd = some undef) : yielded ops a.tmps j = none := by
  have := hF.get jd _ hv
  rw [Array.getD_eq_getD_getElem?] at this
  unfold yielded
  cases ho : ops[j]? with
  | none => simp [ho] at hj
  | some o =>
    simp [ho] at hj
    cases hq : a.tmps[jd]? with
    | none => simp [hj, hq]
    | some u => rw [hq] at this; simp at this; simp [hj, hq, this, undef]
theorem J.gu {op : Op} {t : TypeId} {p : String} {af : Array Edge} {d : Nat} {j : Nat} {want : Bool} {jd : Nat} (hd : Nat.blt d n = true)
    (hj : (ops[j]?).bind (·.dst) = some jd) (hv : lk us jd = some undef)
    (k : J P ops Q n B H0 rest ((d, undef) :: us) H L) : J P ops Q n B H0 (⟨some d, op, t, p, af, some (j, want)⟩ :: rest) us H L := by
  intro a w hF hH
  refine wpList_step fun K hK => ?_
  rw [if_neg (by simp [Region.wanted, yield_un hF hj hv])]
  exact hK _ _ (k _ _ (hF.put hd undef) hH)
theorem JS.gu {op : Op} {t : TypeId} {p : String} {af : Array Edge} {d : Nat} {j : Nat} {want : Bool} {jd : Nat} (hd : Nat.blt d n = true)
    (hj : (ops[j]?).bind (·.dst) = some jd) (hv : lk us jd = some undef)
    (k : JS P ops Q n B H0 rest ((d, undef) :: us) H L) : JS P ops Q n B H0 (⟨some d, op, t, p, af, some (j, want)⟩ :: rest) us H L := by
  intro a w hF hH
  refine wpStill_step fun K hK => ?_
  rw [if_neg (by simp [Region.wanted, yield_un hF hj hv])]
  exact hK _ (k _ _ (hF.put hd undef) hH)
theorem CJ.condT {c : Operand} {x y : Code} (hc : opv us c = some (.bool true)) (h : CJ P x Q n B H0 us H L) : CJ P (.cond c x y) Q n B H0 us H L := CJ.cond hc (fun _ => h) (fun e => by cases e)
theorem CJ.condF {c : Operand} {x y : Code} (hc : opv us c = some (.bool false)) (h : CJ P y Q n B H0 us H L) : CJ P (.cond c x y) Q n B H0 us H L := CJ.cond hc (fun e => by cases e) (fun _ => h)
/-- a call under a guard that says yes -/
theorem J.gcall {f : FuncId} (hfn : Fn P f) {ats : Array TypeId} {xs : List Operand} {vs : List Value} {j jd : Nat} {want b : Bool} (hj : (ops[j]?).bind (·.dst) = some jd) (hv : lk us jd = some (.bool b)) (hb : b = want) (hx : opvs us xs = some vs) (hd : Nat.blt d n = true)
    (hc : ∀ w, Hp B H0 H L w → Calls P f vs.toArray w fun e w' => ∃ v, e = .returned v ∧ ∀ a', Fr n ((d, v) :: us) a' → wpList P ops Q rest a' w') :
    J P ops Q n B H0 (⟨some d, .call { callee := .value (.func f), args := xs.toArray, argTypes := ats }, t, p, af, some (j, want)⟩ :: rest) us H L := by
  intro a w hF hH
  refine wpList_step fun K hK => ?_
  rw [if_pos (by simp [Region.wanted, yield_of hF hj hv, hb])]
  have hrun : (execOp a.eval ⟨some d, .call { callee := .value (.func f), args := xs.toArray, argTypes := ats }, t, p, af, some (j, want)⟩).run P w = .ok (.enter f vs.toArray) w := by
    have := hF.evs hx
    simp [execOp, resolve, invoke, Deferred.ofValue, Act.eval, this, hfn.run]
  unfold Oper.wp
  rw [hrun, Oper.upon_enter]
  exact (hc w hH).mono fun e w' ⟨v, he, h⟩ => by subst he; exact hK _ _ (h _ (hF.put hd v))
/-- an element of a slice over a block of the call's own -/
theorem PR.idxO {ty e : TypeId} {k : IntKind} {g m c sz : Nat} {i : Int} {i' : Nat} (hu : P.underlying ty = some (.slice e)) (hs : Size P e sz) (hx : opv us x = some (.slice (some ⟨g, 0, none⟩) m c)) (hy : opv us y = some (.int k i)) (hi : i = (i' : Int)) (hl : i' < m) :
    PR P n B H0 us H L (.indexAddr ty x y) t (.pointer (some ⟨g, i' * sz, none⟩)) := by
  have := PR.idx (P := P) (n := n) (B := B) (H0 := H0) (H := H) (L := L) (t := t) hu hs hx hy hi hl (fun _ => rfl)
  simpa [ptr, add_at] using this
theorem PR.idxO1 {ty e : TypeId} {k : IntKind} {g m c : Nat} {i : Int} {i' : Nat} (hu : P.underlying ty = some (.slice e)) (hs : Size P e 1) (hx : opv us x = some (.slice (some ⟨g, 0, none⟩) m c)) (hy : opv us y = some (.int k i)) (hi : i = (i' : Int)) (hl : i' < m) :
    PR P n B H0 us H L (.indexAddr ty x y) t (.pointer (some ⟨g, i', none⟩)) := by
  have := PR.idxO (P := P) (n := n) (B := B) (H0 := H0) (H := H) (L := L) (t := t) hu hs hx hy hi hl
  rwa [Nat.mul_one] at this
theorem J.makeI {ty e : TypeId} {k k' : IntKind} {i j : Int} {m : Nat} (hu : P.underlying ty = some (.slice e)) (hz : Zero P e [.int .i64 0]) (hs : Size P e 1) (hb : Bytes P e 8)
    (hx : opv us x = some (.int k i)) (hy : opv us y = some (.int k' j)) (hi : i = (m : Int)) (hj : j = (m : Int)) (hl : m ≤ 35184372088832) (hd : Nat.blt d n = true)
    (hk : ∀ g, J P ops Q n B H0 rest ((d, .slice (some ⟨g, 0, none⟩) m m) :: us) H (obj g (.cells (intsC (List.replicate m 0)).toArray e (0, 0)) :: L)) :
    J P ops Q n B H0 (⟨some d, .makeSlice ty x y, t, p, af, none⟩ :: rest) us H L := by
  refine J.make hu hz hs hb hx hy hi hj (Nat.le_refl _) (by omega) (by omega) hd fun g => ?_
  have : (List.replicate m [Value.int .i64 0]).flatten = intsC (List.replicate m 0) := by
    simp [intsC]
  rw [this]
  exact hk g
theorem J.splitD {jd : Nat} {q : Prop} {inst : Decidable q} (hv : lk us jd = some (.bool (@decide q inst))) (ht : q → J P ops Q n B H0 rest us H L) (hf : ¬ q → J P ops Q n B H0 rest us H L) : J P ops Q n B H0 rest us H L := by
  by_cases h : q
  · exact ht h
  · exact hf h
theorem Term.c_fac {t : Term} (h : t.wf) : t.c[8]? = some (.int .i64 t.fac) := by
  have := h.mono.len
  simp only [Term.c]
  rw [List.getElem?_append_right (by simp [this])]
  simp [this]
theorem PR.fieldMono {ty : TypeId} {fs : Array Field} {f : Field} {tr : Term} {j : Nat} (hu : P.underlying ty = some (.struct fs)) (hf : fs[j]? = some f) (hp : Agg P f.type 8) (hx : opv us x = some (.agg tr.c.toArray)) (hw : tr.wf) (h0 : f.offset = 0 := by rfl) :
    PR P n B H0 us H L (.field ty x j) t (.agg (bytesC tr.mono).toArray) := by
  have := PR.fieldAgg (P := P) (n := n) (B := B) (H0 := H0) (H := H) (L := L) (t := t) hu hf hp hx
  rw [h0] at this
  have e : (tr.c.drop 0).take 8 = bytesC tr.mono := by
    have := hw.mono.len
    simp only [Term.c, List.drop_zero]
    rw [List.take_append_of_le_length (by simp [this]), List.take_of_length_le (by simp [this])]
  rwa [e] at this
theorem vi {a b : Int} (h : a = b) : some (Value.int .i64 a) = some (Value.int .i64 b) := by rw [h]
theorem vi8 {a b : Int} (h : a = b) : some (Value.int .u8 a) = some (Value.int .u8 b) := by rw [h]
theorem nott {b : Bool} (h : (!b) = true) : b = false := by simpa using h
theorem notf {b : Bool} (h : (!b) = false) : b = true := by simpa using h
theorem rb {a b : Bool} (h : a = b) : Ending.returned (.bool a) = .returned (.bool b) := by rw [h]
theorem ri {k : IntKind} {a b : Int} (h : a = b) : Ending.returned (.int k a) = .returned (.int k b) := by rw [h]
theorem vb {a b : Bool} (h : a = b) : some (Value.bool a) = some (Value.bool b) := by rw [h]
/-- filling a row place by place -/
theorem fill_step {xs : List Int} {k : Nat} (h : k < xs.length) : (xs.take k ++ List.replicate (xs.length - k) 0).set k (xs.getD k 0) = xs.take (k + 1) ++ List.replicate (xs.length - (k + 1)) 0 := by
  have e : xs.length - k = (xs.length - (k + 1)) + 1 := by omega
  have ht : (xs.take k).length = k := by simp; omega
  rw [e, List.replicate_succ, List.set_append, if_neg (by omega), ht, Nat.sub_self, List.set_cons_zero, List.getD_eq_getElem?_getD, List.getElem?_eq_getElem h, List.take_succ_eq_append_getElem h, List.append_assoc]
  rfl
theorem fill_end (xs : List Int) : xs.take xs.length ++ List.replicate (xs.length - xs.length) 0 = xs := by simp
theorem one_cell {H : HP} {q : Option Addr} {k : Nat} {v : Value} (h : cellO H q k = some v) : ∀ j u, [v][j]? = some u → cellO H q (k + j) = some u := by
  intro j u hj
  cases j with
  | zero => simp at hj; subst hj; exact h
  | succ j => simp at hj
end
end Go.Proofs.YtbjhllmcnfncdaaDoor.G
