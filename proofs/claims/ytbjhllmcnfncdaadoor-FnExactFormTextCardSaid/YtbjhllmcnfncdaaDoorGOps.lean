/- The rules for the operations that change nothing: numbers, tests, parts of values, reading of memory, addresses. No condition. -/
import Derived.Test.YtbjhllmcnfncdaaDoorGCore
namespace Go.Proofs.YtbjhllmcnfncdaaDoor.G
open Go Go.RowKit

/-- The operation gives v and leaves the world alone. -/
def PR (P : Program) (n : Nat) (B : World) (H0 : HP) (us : List (Nat × Value)) (H : HP) (L : List SA) (op : Op) (t : TypeId) (v : Value) : Prop :=
  ∀ (d : Option Tmp) (p : String) (af : Array Edge) (g : Option (Nat × Bool)) (a : Act) (w : World), Fr n us a → Hp B H0 H L w → (execOp a.eval ⟨d, op, t, p, af, g⟩).run P w = .ok (.value v) w

section
variable {P : Program} {ops : Array Oper} {Q : Exit → Act → World → Prop} {n : Nat} {B : World} {H0 H : HP} {rest : List Oper} {us : List (Nat × Value)} {L : List SA}

theorem J.p {op : Op} {t : TypeId} {p : String} {af : Array Edge} {d : Nat} {v : Value} (h : PR P n B H0 us H L op t v) (hd : Nat.blt d n = true)
    (k : J P ops Q n B H0 rest ((d, v) :: us) H L) : J P ops Q n B H0 (⟨some d, op, t, p, af, none⟩ :: rest) us H L := by
  intro a w hF hH
  refine wpList_plain rfl fun K hK => ?_
  unfold Oper.wp
  rw [h _ _ _ _ a w hF hH]
  exact hK _ _ (k _ _ (hF.put hd v) hH)

/-! the guarded ones -/
theorem J.gy {op : Op} {t : TypeId} {p : String} {af : Array Edge} {d : Nat} {v : Value} {j : Nat} {want b : Bool} {jd : Nat} (h : PR P n B H0 us H L op t v) (hd : Nat.blt d n = true)
    (hj : (ops[j]?).bind (·.dst) = some jd) (hv : lk us jd = some (.bool b)) (hb : b = want)
    (k : J P ops Q n B H0 rest ((d, v) :: us) H L) : J P ops Q n B H0 (⟨some d, op, t, p, af, some (j, want)⟩ :: rest) us H L := by
  intro a w hF hH
  refine wpList_step fun K hK => ?_
  have hy : yielded ops a.tmps j = some want := by
    have := hF.get jd _ hv
    rw [Array.getD_eq_getD_getElem?] at this
    unfold yielded
    cases ho : ops[j]? with
    | none => simp [ho] at hj
    | some o =>
      simp [ho] at hj
      cases hq : a.tmps[jd]? with
      | none => rw [hq] at this; simp [undef] at this
      | some u => rw [hq] at this; simp at this; simp [hj, hq, this, hb]
  rw [if_pos (by simp [Region.wanted, hy])]
  unfold Oper.wp
  rw [h _ _ _ _ a w hF hH]
  exact hK _ _ (k _ _ (hF.put hd v) hH)
theorem J.gn {op : Op} {t : TypeId} {p : String} {af : Array Edge} {d : Nat} {j : Nat} {want b : Bool} {jd : Nat} (hd : Nat.blt d n = true)
    (hj : (ops[j]?).bind (·.dst) = some jd) (hv : lk us jd = some (.bool b)) (hb : b = !want)
    (k : J P ops Q n B H0 rest ((d, undef) :: us) H L) : J P ops Q n B H0 (⟨some d, op, t, p, af, some (j, want)⟩ :: rest) us H L := by
  intro a w hF hH
  refine wpList_step fun K hK => ?_
  have hy : yielded ops a.tmps j = some (!want) := by
    have := hF.get jd _ hv
    rw [Array.getD_eq_getD_getElem?] at this
    unfold yielded
    cases ho : ops[j]? with
    | none => simp [ho] at hj
    | some o =>
      simp [ho] at hj
      cases hq : a.tmps[jd]? with
      | none => rw [hq] at this; simp [undef] at this
      | some u => rw [hq] at this; simp at this; simp [hj, hq, this, hb]
  rw [if_neg (by cases want <;> simp [Region.wanted, hy])]
  exact hK _ _ (k _ _ (hF.put hd undef) hH)
/-- A test is decided. -/
theorem J.split (b : Bool) (ht : b = true → J P ops Q n B H0 rest us H L) (hf : b = false → J P ops Q n B H0 rest us H L) : J P ops Q n B H0 rest us H L := by
  cases b
  · exact hf rfl
  · exact ht rfl

variable {t : TypeId} {x y z : Operand}
theorem PR.move {v : Value} (hx : opv us x = some v) : PR P n B H0 us H L (.move x) t v := fun _ _ _ _ a w hF _ => by simp [execOp, hF.ev hx]
theorem PR.assign {v : Value} (hx : opv us x = some v) : PR P n B H0 us H L (.assign x) t v := fun _ _ _ _ a w hF _ => by simp [execOp, hF.ev hx]
theorem PR.pickT {b : Bool} {v : Value} (hc : opv us x = some (.bool b)) (hb : b = true) (hv : opv us y = some v) : PR P n B H0 us H L (.pick x y z) t v :=
  fun _ _ _ _ a w hF _ => by simp [execOp, hF.ev hc, hb, hF.ev hv, asBool]
theorem PR.pickF {b : Bool} {v : Value} (hc : opv us x = some (.bool b)) (hb : b = false) (hv : opv us z = some v) : PR P n B H0 us H L (.pick x y z) t v :=
  fun _ _ _ _ a w hF _ => by simp [execOp, hF.ev hc, hb, hF.ev hv, asBool]
theorem PR.pick {b : Bool} {v u : Value} (hc : opv us x = some (.bool b)) (hv : opv us y = some v) (hu : opv us z = some u) : PR P n B H0 us H L (.pick x y z) t (if b then v else u) :=
  fun _ _ _ _ a w hF _ => by cases b <;> simp [execOp, hF.ev hc, hF.ev hv, hF.ev hu, asBool]
section ints
variable {k : IntKind} {i j r : Int} {xt yt : TypeId}
theorem PR.add (hx : opv us x = some (.int k i)) (hy : opv us y = some (.int k j)) (hr : k.wrap (i + j) = r) : PR P n B H0 us H L (.binOp .add xt x y yt) t (.int k r) :=
  fun _ _ _ _ a w hF _ => by subst hr; simp [execOp, hF.ev hx, hF.ev hy, eqGuard_add, binOp_add, Op.intArith]
theorem PR.sub (hx : opv us x = some (.int k i)) (hy : opv us y = some (.int k j)) (hr : k.wrap (i - j) = r) : PR P n B H0 us H L (.binOp .sub xt x y yt) t (.int k r) :=
  fun _ _ _ _ a w hF _ => by subst hr; simp [execOp, hF.ev hx, hF.ev hy, eqGuard_sub, binOp_sub, Op.intArith]
theorem PR.mul (hx : opv us x = some (.int k i)) (hy : opv us y = some (.int k j)) (hr : k.wrap (i * j) = r) : PR P n B H0 us H L (.binOp .mul xt x y yt) t (.int k r) :=
  fun _ _ _ _ a w hF _ => by subst hr; simp [execOp, hF.ev hx, hF.ev hy, eqGuard_mul, binOp_mul, Op.intArith]
theorem PR.quo (hx : opv us x = some (.int k i)) (hy : opv us y = some (.int k j)) (h0 : j ≠ 0) (hr : k.wrap (i.tdiv j) = r) : PR P n B H0 us H L (.binOp .quo xt x y yt) t (.int k r) :=
  fun _ _ _ _ a w hF _ => by subst hr; simp [execOp, hF.ev hx, hF.ev hy, eqGuard_quo, binOp_quo, Op.intDiv, h0]
theorem PR.rem (hx : opv us x = some (.int k i)) (hy : opv us y = some (.int k j)) (h0 : j ≠ 0) (hr : i.tmod j = r) : PR P n B H0 us H L (.binOp .rem xt x y yt) t (.int k r) :=
  fun _ _ _ _ a w hF _ => by subst hr; simp [execOp, hF.ev hx, hF.ev hy, eqGuard_rem, binOp_rem, Op.intDiv, h0]
theorem PR.eql (hx : opv us x = some (.int k i)) (hy : opv us y = some (.int k j)) : PR P n B H0 us H L (.binOp .eql xt x y yt) t (.bool (decide (i = j))) :=
  fun _ _ _ _ a w hF _ => by simp [execOp, hF.ev hx, hF.ev hy, eqGuard, binOp_eql]; rfl
theorem PR.neq (hx : opv us x = some (.int k i)) (hy : opv us y = some (.int k j)) : PR P n B H0 us H L (.binOp .neq xt x y yt) t (.bool (decide (i ≠ j))) :=
  fun _ _ _ _ a w hF _ => by
    simp [execOp, hF.ev hx, hF.ev hy, eqGuard, binOp_neq]
    by_cases e : i = j <;> simp [e]
theorem PR.lss (hx : opv us x = some (.int k i)) (hy : opv us y = some (.int k j)) : PR P n B H0 us H L (.binOp .lss xt x y yt) t (.bool (decide (i < j))) :=
  fun _ _ _ _ a w hF _ => by simp [execOp, hF.ev hx, hF.ev hy, eqGuard, binOp_lss]
theorem PR.leq (hx : opv us x = some (.int k i)) (hy : opv us y = some (.int k j)) : PR P n B H0 us H L (.binOp .leq xt x y yt) t (.bool (decide (i ≤ j))) :=
  fun _ _ _ _ a w hF _ => by simp [execOp, hF.ev hx, hF.ev hy, eqGuard, binOp_leq]
theorem PR.gtr (hx : opv us x = some (.int k i)) (hy : opv us y = some (.int k j)) : PR P n B H0 us H L (.binOp .gtr xt x y yt) t (.bool (decide (j < i))) :=
  fun _ _ _ _ a w hF _ => by simp [execOp, hF.ev hx, hF.ev hy, eqGuard, binOp_gtr]
theorem PR.geq (hx : opv us x = some (.int k i)) (hy : opv us y = some (.int k j)) : PR P n B H0 us H L (.binOp .geq xt x y yt) t (.bool (decide (j ≤ i))) :=
  fun _ _ _ _ a w hF _ => by simp [execOp, hF.ev hx, hF.ev hy, eqGuard, binOp_geq]
theorem PR.neg (hx : opv us x = some (.int k i)) (hr : k.wrap (0 - i) = r) : PR P n B H0 us H L (.unOp .neg xt x) t (.int k r) :=
  fun _ _ _ _ a w hF _ => by subst hr; simp [execOp, hF.ev hx, Op.unary, Op.intArith]
/-- a number as one of another kind -/
theorem PR.conv {k' : IntKind} {ds : TypeDesc} (hs : P.underlying xt = some ds) (hdt : P.underlying yt = some (.int k')) (hx : opv us x = some (.int k i)) (hr : k'.wrap i = r) : PR P n B H0 us H L (.convert xt yt x) t (.int k' r) :=
  fun _ _ _ _ a w hF _ => by subst hr; simp [execOp, hF.ev hx, convert, run_underlying hs, run_underlying hdt, Conv.intToInt]
end ints
theorem PR.not {b : Bool} {xt : TypeId} (hx : opv us x = some (.bool b)) : PR P n B H0 us H L (.unOp .not xt x) t (.bool (!b)) :=
  fun _ _ _ _ a w hF _ => by simp [execOp, hF.ev hx, Op.unary]
theorem run_equal_bool {P : Program} {xt : TypeId} (hu : P.underlying xt = some .bool) (a b : Bool) (w : World) : (Op.equal xt (.bool a) (.bool b)).run P w = .ok (a == b) w := by
  show (Op.equalIn (9999 + 1) xt (.bool a) (.bool b)).run P w = _
  rw [Op.equalIn]
  simp [run_underlying hu]
theorem PR.eqlB {a b : Bool} {xt yt : TypeId} (hu : P.underlying xt = some .bool) (hx : opv us x = some (.bool a)) (hy : opv us y = some (.bool b)) : PR P n B H0 us H L (.binOp .eql xt x y yt) t (.bool (decide (a = b))) :=
  fun _ _ _ _ ac w hF _ => by
    have hb : binOp .eql xt (.bool a) (.bool b) = (do pure (.bool (← Op.equal xt (.bool a) (.bool b)))) := rfl
    have hg : eqGuard .eql xt x y (.bool a) (.bool b) = pure () := rfl
    simp only [execOp, hF.ev hx, hF.ev hy, hb, hg]
    simp [run_equal_bool hu]
    cases a <;> cases b <;> rfl
theorem PR.neqB {a b : Bool} {xt yt : TypeId} (hu : P.underlying xt = some .bool) (hx : opv us x = some (.bool a)) (hy : opv us y = some (.bool b)) : PR P n B H0 us H L (.binOp .neq xt x y yt) t (.bool (decide (a ≠ b))) :=
  fun _ _ _ _ ac w hF _ => by
    have hb : binOp .neq xt (.bool a) (.bool b) = (do pure (.bool (!(← Op.equal xt (.bool a) (.bool b))))) := rfl
    have hg : eqGuard .neq xt x y (.bool a) (.bool b) = pure () := rfl
    simp only [execOp, hF.ev hx, hF.ev hy, hb, hg]
    simp [run_equal_bool hu]
    cases a <;> cases b <;> rfl
theorem PR.extract {vs : Array Value} {v : Value} {i : Nat} (hx : opv us x = some (.tuple vs)) (hv : vs[i]? = some v) : PR P n B H0 us H L (.extract x i) t v :=
  fun _ _ _ _ a w hF _ => by simp [execOp, hF.ev hx, Instr.extract, hv]
theorem PR.lenSlice {q : Option Addr} {m c : Nat} {ty e : TypeId} {r : Int} (hu : P.underlying ty = some (.slice e)) (hx : opv us x = some (.slice q m c)) (hr : (m : Int) = r) :
    PR P n B H0 us H L (.call { callee := .builtin .len, args := #[x], argTypes := #[ty] }) t (.int .i64 r) :=
  fun _ _ _ _ a w hF _ => by subst hr; simp [execOp, resolve, invoke, builtin, Builtin.len_, hF.ev hx, run_underlying hu, goInt]
theorem PR.lenString {s : ByteArray} {ty : TypeId} {r : Int} (hu : P.underlying ty = some .string) (hx : opv us x = some (.string s)) (hr : (s.size : Int) = r) :
    PR P n B H0 us H L (.call { callee := .builtin .len, args := #[x], argTypes := #[ty] }) t (.int .i64 r) :=
  fun _ _ _ _ a w hF _ => by subst hr; simp [execOp, resolve, invoke, builtin, Builtin.len_, hF.ev hx, run_underlying hu, goInt]
theorem PR.min2 {k : IntKind} {i j : Int} {ats : Array TypeId} (hx : opv us x = some (.int k i)) (hy : opv us y = some (.int k j)) :
    PR P n B H0 us H L (.call { callee := .builtin .min, args := #[x, y], argTypes := ats }) t (.int k (if j < i then j else i)) :=
  fun _ _ _ _ a w hF _ => by simp [execOp, resolve, invoke, builtin, Builtin.min_, Builtin.min2, hF.ev hx, hF.ev hy]
theorem PR.max2 {k : IntKind} {i j : Int} {ats : Array TypeId} (hx : opv us x = some (.int k i)) (hy : opv us y = some (.int k j)) :
    PR P n B H0 us H L (.call { callee := .builtin .max, args := #[x, y], argTypes := ats }) t (.int k (if j > i then j else i)) :=
  fun _ _ _ _ a w hF _ => by simp [execOp, resolve, invoke, builtin, Builtin.max_, Builtin.max2, hF.ev hx, hF.ev hy]

/-! ### what is known of types -/
/-- t is no struct and no array. -/
def Plain (P : Program) (t : TypeId) : Prop := ∃ d, P.underlying t = some d ∧ (match d with | .struct _ | .array _ _ => true | _ => false) = false
/-- t is a struct or an array of m cells. -/
def Agg (P : Program) (t : TypeId) (m : Nat) : Prop := ∃ d, P.underlying t = some d ∧ (match d with | .struct _ | .array _ _ => true | _ => false) = true ∧ (P.info? t).map (·.size) = some m
def Size (P : Program) (t : TypeId) (m : Nat) : Prop := (P.info? t).map (·.size) = some m

theorem Plain.run {P : Program} {t : TypeId} (h : Plain P t) (w : World) : (isAgg t).run P w = .ok false w := by
  obtain ⟨d, hu, hd⟩ := h
  unfold isAgg
  rw [Sem.run_bind, run_underlying hu w]
  cases d <;> simp_all
theorem Agg.run {P : Program} {t : TypeId} {m : Nat} (h : Agg P t m) (w : World) : (isAgg t).run P w = .ok true w := by
  obtain ⟨d, hu, hd, _⟩ := h
  unfold isAgg
  rw [Sem.run_bind, run_underlying hu w]
  cases d <;> simp_all
theorem Size.run {P : Program} {t : TypeId} {m : Nat} (h : Size P t m) (w : World) : (sizeOf t).run P w = .ok m w := by
  unfold Size at h
  cases hq : P.info? t with
  | none => simp [hq] at h
  | some i => simp [hq] at h; simp [sizeOf, typeInfo, hq, h]
theorem Agg.size {P : Program} {t : TypeId} {m : Nat} (h : Agg P t m) : Size P t m := by obtain ⟨_, _, _, h⟩ := h; exact h

theorem run_loadVar_plain {P : Program} {t : TypeId} {q : Addr} {v : Value} {w : World} (h : Plain P t) (hc : w.cell? q = some v) : (loadVar t q).run P w = .ok v w := by
  simp [loadVar, Sem.run_bind, h.run w, hc]
theorem run_loadVar_agg {P : Program} {t : TypeId} {q : Addr} {cs : List Value} {w : World} (h : Agg P t cs.length) (hc : ∀ j v, cs[j]? = some v → w.cell? (q.add j) = some v) : (loadVar t q).run P w = .ok (.agg cs.toArray) w := by
  simp [loadVar, Sem.run_bind, h.run w, h.size.run w, run_loadCells_list (P := P) w q cs hc]

/-! ### cells -/
def cellH (H : HP) (q : Addr) : Option Value := match H q.block with
  | some (.cells c _ _) => if q.spot.isSome then none else c[q.off]?
  | _ => none
theorem cellH_le {H H' : HP} (h : Le H H') {q : Addr} {v : Value} (hc : cellH H q = some v) : cellH H' q = some v := by
  unfold cellH at hc ⊢
  cases hb : H q.block with
  | none => simp [hb] at hc
  | some o => rw [h _ _ hb]; rw [hb] at hc; exact hc
theorem cellH_w {H : HP} {w : World} (h : ∀ b o, H b = some o → hp w b = some o) {q : Addr} {v : Value} (hc : cellH H q = some v) : w.cell? q = some v := by
  unfold cellH at hc
  unfold World.cell?
  cases hb : H q.block with
  | none => simp [hb] at hc
  | some o =>
    have := h _ _ hb
    simp only [hp] at this
    rw [this]
    rw [hb] at hc
    exact hc
/-- The cell k places behind an address. -/
def cellO (H : HP) (q : Option Addr) (k : Nat) : Option Value := q.bind fun p => cellH H (p.add k)
theorem cellO_le {H H' : HP} (h : Le H H') {q : Option Addr} {k : Nat} {v : Value} (hc : cellO H q k = some v) : cellO H' q k = some v := by
  cases q with
  | none => simp [cellO] at hc
  | some p => exact cellH_le h hc
theorem add_add (p : Addr) (i j : Nat) : (p.add i).add j = p.add (i + j) := by
  unfold Addr.add
  by_cases hi : i = 0
  · subst hi
    simp
  · by_cases hj : j = 0
    · subst hj
      simp
    · simp [hi, hj, Nat.add_assoc]
theorem add_at (g o k : Nat) : (⟨g, o, none⟩ : Addr).add k = ⟨g, o + k, none⟩ := by unfold Addr.add; split <;> simp_all

/-- a pointer k places behind an address -/
def ptr (q : Option Addr) (k : Nat) : Value := .pointer (q.map fun p => p.add k)

/-- reading what doesn't change -/
theorem PR.loadH {ty : TypeId} {q : Option Addr} {k : Nat} {v : Value} (hx : opv us x = some (ptr q k)) (hc : cellO H q k = some v) (hp : Plain P ty) : PR P n B H0 us H L (.load ty x) t v :=
  fun _ _ _ _ a w hF hH => by
    cases q with
    | none => simp [cellO] at hc
    | some p =>
      have := run_loadVar_plain hp (cellH_w hH.agree hc)
      simp [execOp, hF.ev hx, ptr, Instr.loadAt, Instr.sureAddr, this]
theorem PR.loadHagg {ty : TypeId} {q : Option Addr} {k : Nat} {cs : List Value} (hx : opv us x = some (ptr q k)) (hc : ∀ j v, cs[j]? = some v → cellO H q (k + j) = some v) (hq : q.isSome = true) (hp : Agg P ty cs.length) : PR P n B H0 us H L (.load ty x) t (.agg cs.toArray) :=
  fun _ _ _ _ a w hF hH => by
    cases q with
    | none => simp at hq
    | some p =>
      have := run_loadVar_agg (q := p.add k) hp (fun j v hj => by rw [add_add]; exact cellH_w hH.agree (hc j v hj))
      simp [execOp, hF.ev hx, ptr, Instr.loadAt, Instr.sureAddr, this]
/-- reading a block of the call's own -/
theorem Hp.cell {g : Nat} {cs : List Value} {e : TypeId} {fr : Nat × Nat} {w : World} (hH : Hp B H0 H L w) (hat : At L (obj g (.cells cs.toArray e fr)) (obj g (.cells cs.toArray e fr)) L) (k : Nat) : w.cell? ⟨g, k, none⟩ = cs[k]? := by
  have : w.heap[g]? = some (.cells cs.toArray e fr) := (hH.objs _ hat.mem).1
  simp [World.cell?, this]
theorem PR.load {ty e : TypeId} {g k : Nat} {fr : Nat × Nat} {cs : List Value} {v : Value} (hx : opv us x = some (.pointer (some ⟨g, k, none⟩))) (hat : At L (obj g (.cells cs.toArray e fr)) (obj g (.cells cs.toArray e fr)) L)
    (hc : cs[k]? = some v) (hp : Plain P ty) : PR P n B H0 us H L (.load ty x) t v :=
  fun _ _ _ _ a w hF hH => by
    have := run_loadVar_plain hp ((Hp.cell hH hat k).trans hc)
    simp [execOp, hF.ev hx, Instr.loadAt, Instr.sureAddr, this]
theorem PR.loadAgg {ty e : TypeId} {g k : Nat} {fr : Nat × Nat} {cs : List Value} (ds : List Value) (hx : opv us x = some (.pointer (some ⟨g, k, none⟩))) (hat : At L (obj g (.cells cs.toArray e fr)) (obj g (.cells cs.toArray e fr)) L)
    (hc : ∀ j v, ds[j]? = some v → cs[k + j]? = some v) (hp : Agg P ty ds.length) : PR P n B H0 us H L (.load ty x) t (.agg ds.toArray) :=
  fun _ _ _ _ a w hF hH => by
    have := run_loadVar_agg (q := ⟨g, k, none⟩) hp (fun j v hj => by rw [add_at, Hp.cell hH hat]; exact hc j v hj)
    simp [execOp, hF.ev hx, Instr.loadAt, Instr.sureAddr, this]
/-- all of a block -/
theorem PR.loadAll {ty e : TypeId} {g : Nat} {fr : Nat × Nat} {cs : List Value} (hx : opv us x = some (.pointer (some ⟨g, 0, none⟩))) (hat : At L (obj g (.cells cs.toArray e fr)) (obj g (.cells cs.toArray e fr)) L)
    (hp : Agg P ty cs.length) : PR P n B H0 us H L (.load ty x) t (.agg cs.toArray) := PR.loadAgg cs hx hat (fun j v hj => by rw [Nat.zero_add]; exact hj) hp

/-! ### addresses -/
theorem PR.idx {ty e : TypeId} {k : IntKind} {q : Option Addr} {m c sz : Nat} {i : Int} {i' : Nat} (hu : P.underlying ty = some (.slice e)) (hs : Size P e sz) (hx : opv us x = some (.slice q m c)) (hy : opv us y = some (.int k i)) (hi : i = (i' : Int)) (hl : i' < m) (hq : i' < m → q.isSome = true) :
    PR P n B H0 us H L (.indexAddr ty x y) t (ptr q (i' * sz)) :=
  fun _ _ _ _ a w hF _ => by
    subst hi
    obtain ⟨p, rfl⟩ := Option.isSome_iff_exists.1 (hq hl)
    simp [execOp, hF.ev hx, hF.ev hy, Instr.indexAt, asIntOf, run_underlying hu, hs.run, ptr, hl]
theorem PR.idxA {ty e : TypeId} {k : IntKind} {g o m sz : Nat} {i : Int} {i' : Nat} (hu : P.underlying ty = some (.array m e)) (hs : Size P e sz) (hx : opv us x = some (.pointer (some ⟨g, o, none⟩))) (hy : opv us y = some (.int k i)) (hi : i = (i' : Int)) (hl : i' < m) :
    PR P n B H0 us H L (.indexAddr ty x y) t (.pointer (some ⟨g, o + i' * sz, none⟩)) :=
  fun _ _ _ _ a w hF _ => by
    subst hi
    simp [execOp, hF.ev hx, hF.ev hy, Instr.indexAt, asIntOf, Instr.sureAddr, run_underlying hu, hs.run, add_at, hl]
theorem PR.idxP {ty e : TypeId} {k : IntKind} {q : Option Addr} {o m sz : Nat} {i : Int} {i' : Nat} (hu : P.underlying ty = some (.array m e)) (hs : Size P e sz) (hx : opv us x = some (ptr q o)) (hq : q.isSome = true) (hy : opv us y = some (.int k i)) (hi : i = (i' : Int)) (hl : i' < m) :
    PR P n B H0 us H L (.indexAddr ty x y) t (ptr q (o + i' * sz)) :=
  fun _ _ _ _ a w hF _ => by
    subst hi
    obtain ⟨p, rfl⟩ := Option.isSome_iff_exists.1 hq
    simp [execOp, hF.ev hx, hF.ev hy, Instr.indexAt, asIntOf, Instr.sureAddr, run_underlying hu, hs.run, ptr, add_add, hl]
theorem PR.fldA {ty : TypeId} {fs : Array Field} {f : Field} {g o j m : Nat} (hu : P.underlying ty = some (.struct fs)) (hf : fs[j]? = some f) (hs : Size P f.type (m + 1)) (hx : opv us x = some (.pointer (some ⟨g, o, none⟩))) :
    PR P n B H0 us H L (.fieldAddr ty x j) t (.pointer (some ⟨g, o + f.offset, none⟩)) :=
  fun _ _ _ _ a w hF _ => by simp [execOp, hF.ev hx, Instr.fieldAt, Instr.sureAddr, fieldPlace, run_underlying hu, hf, hs.run, add_at]
theorem PR.fldP {ty : TypeId} {fs : Array Field} {f : Field} {q : Option Addr} {o j m : Nat} (hu : P.underlying ty = some (.struct fs)) (hf : fs[j]? = some f) (hs : Size P f.type (m + 1)) (hx : opv us x = some (ptr q o)) (hq : q.isSome = true) :
    PR P n B H0 us H L (.fieldAddr ty x j) t (ptr q (o + f.offset)) :=
  fun _ _ _ _ a w hF _ => by
    obtain ⟨p, rfl⟩ := Option.isSome_iff_exists.1 hq
    simp [execOp, hF.ev hx, Instr.fieldAt, Instr.sureAddr, fieldPlace, run_underlying hu, hf, hs.run, ptr, add_add]
theorem PR.nilCheck {p : Addr} (hx : opv us x = some (.pointer (some p))) : PR P n B H0 us H L (.nilCheck x) t (.pointer (some p)) :=
  fun _ _ _ _ a w hF _ => by simp [execOp, hF.ev hx]

/-! ### parts of values -/
theorem PR.index {ty e : TypeId} {k : IntKind} {m : Nat} {cs : List Value} {i : Int} {i' : Nat} {v : Value} (hu : P.underlying ty = some (.array m e)) (hs : Size P e 1) (hp : Plain P e) (hx : opv us x = some (.agg cs.toArray)) (hy : opv us y = some (.int k i)) (hi : i = (i' : Int)) (hl : i' < m) (hv : cs[i']? = some v) :
    PR P n B H0 us H L (.index ty x y) t v :=
  fun _ _ _ _ a w hF _ => by
    subst hi
    simp [execOp, hF.ev hx, hF.ev hy, Instr.index, asIntOf, run_underlying hu, hs.run, part, hp.run, hl, hv]
theorem PR.indexStr {ty : TypeId} {k : IntKind} {s : ByteArray} {i : Int} {i' : Nat} {c : UInt8} (hu : P.underlying ty = some .string) (hx : opv us x = some (.string s)) (hy : opv us y = some (.int k i)) (hi : i = (i' : Int)) (hv : s.data[i']? = some c) :
    PR P n B H0 us H L (.index ty x y) t (.int .u8 c.toNat) :=
  fun _ _ _ _ a w hF _ => by
    subst hi
    have hl : i' < s.size := (Array.getElem?_eq_some_iff.1 hv).1
    have hg : s[i']? = some c := by
      rw [getElem?_pos s i' hl]
      have := (Array.getElem?_eq_some_iff.1 hv).2
      exact congrArg some this
    simp [execOp, hF.ev hx, hF.ev hy, Instr.index, asIntOf, run_underlying hu, hg]
theorem PR.fieldV {ty : TypeId} {fs : Array Field} {f : Field} {cs : List Value} {j : Nat} {v : Value} (hu : P.underlying ty = some (.struct fs)) (hf : fs[j]? = some f) (hp : Plain P f.type) (hx : opv us x = some (.agg cs.toArray)) (hv : cs[f.offset]? = some v) :
    PR P n B H0 us H L (.field ty x j) t v :=
  fun _ _ _ _ a w hF _ => by simp [execOp, hF.ev hx, Instr.field, run_underlying hu, hf, asAgg, part, hp.run, hv]
theorem PR.fieldAgg {ty : TypeId} {fs : Array Field} {f : Field} {cs : List Value} {j m : Nat} (hu : P.underlying ty = some (.struct fs)) (hf : fs[j]? = some f) (hp : Agg P f.type m) (hx : opv us x = some (.agg cs.toArray)) :
    PR P n B H0 us H L (.field ty x j) t (.agg ((cs.drop f.offset).take m).toArray) :=
  fun _ _ _ _ a w hF _ => by
    simp [execOp, hF.ev hx, Instr.field, run_underlying hu, hf, asAgg, part, hp.run, hp.size.run, List.extract_eq_take_drop]
end
end Go.Proofs.YtbjhllmcnfncdaaDoor.G
