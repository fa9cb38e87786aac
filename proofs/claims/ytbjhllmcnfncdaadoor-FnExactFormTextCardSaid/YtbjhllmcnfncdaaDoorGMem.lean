/- The rules for the operations that make memory or write it, for calls and for returns. No condition. -/
import Derived.Test.YtbjhllmcnfncdaaDoorGOps
import Derived.Maps.AppendAt
namespace Go.Proofs.YtbjhllmcnfncdaaDoor.G
open Go Go.RowKit

/-- slice value '.slice q m c' owns a row whose first m elements have these cells -/
def own (e : TypeId) (sz : Nat) (q : Option Addr) (m c : Nat) (cells : List Value) : SA where
  fp := fun b => ∃ p : Addr, q = some p ∧ p.block = b
  holds := fun h => cells.length = m * sz ∧ ((q = none ∧ m = 0 ∧ c = 0) ∨
    ∃ (g : Nat) (cur : Array Value), q = some ⟨g, 0, none⟩ ∧ h g = some (.cells cur e (0, 0)) ∧ m ≤ c ∧ c ≤ maxLen ∧ cur.size = c * sz ∧ cur.toList.take (m * sz) = cells)
  loc := fun h h' hb hh => by
    obtain ⟨h1, h2⟩ := hh
    refine ⟨h1, ?_⟩
    rcases h2 with h2 | ⟨g, cur, hq, hg, r⟩
    · exact .inl h2
    · exact .inr ⟨g, cur, hq, by rw [← hb g ⟨_, hq, rfl⟩]; exact hg, r⟩

section
variable {P : Program} {ops : Array Oper} {Q : Exit → Act → World → Prop} {n : Nat} {B : World} {H0 H : HP} {rest : List Oper} {us : List (Nat × Value)} {L L' : List SA} {t : TypeId} {p : String} {af : Array Edge} {d : Nat} {x y : Operand}

theorem chg_alloc (w : World) (o : Obj) : Chg (fun _ => False) w (w.alloc o) :=
  ⟨rfl, rfl, rfl, by simp, fun b hb _ => Below.heap_alloc w o b hb⟩
theorem Hp.alloc {w : World} (h : Hp B H0 H L w) (o : Obj) : Hp B H0 H (obj w.heap.size o :: L) (w.alloc o) :=
  h.new (chg_alloc w o) (heap_alloc_new w o) (fun b hb => by rw [show b = w.heap.size from hb]; simp)
theorem chg_setRow {w : World} {g : Nat} {cur cs : Array Value} {e : TypeId} {fr : Nat × Nat} (_hg : w.heap[g]? = some (.cells cur e fr)) : Chg (fun b => b = g) w (w.setRow g cs) :=
  ⟨rfl, rfl, rfl, by simp, fun b _ hb => setRow_other w g b cs hb⟩
theorem Hp.setRow {w : World} {g : Nat} {cur cs : Array Value} {e : TypeId} {fr : Nat × Nat} (h : Hp B H0 H L w) (hat : At L (obj g (.cells cur e fr)) (obj g (.cells cs e fr)) L') : Hp B H0 H L' (w.setRow g cs) := by
  have hg : w.heap[g]? = some (.cells cur e fr) := (h.objs _ hat.mem).1
  refine h.upd hat (chg_setRow hg) (setRow_heap w g cur cs e fr hg) (fun b hb => ⟨.inl hb, ?_⟩)
  rw [show b = g from hb]
  have := hp_lt hg
  simpa using this

/-- a parameter's or a value's own block -/
theorem J.box {e : TypeId} {v : Value} {cs : List Value} (hx : opv us x = some v) (hv : v.cells = cs.toArray) (hd : Nat.blt d n = true)
    (k : ∀ g, J P ops Q n B H0 rest ((d, .pointer (some ⟨g, 0, none⟩)) :: us) H (obj g (.cells cs.toArray e (0, 0)) :: L)) :
    J P ops Q n B H0 (⟨some d, .box e x, t, p, af, none⟩ :: rest) us H L := by
  refine J.val hd fun a w hF hH => ⟨.pointer (some ⟨w.heap.size, 0, none⟩), w.alloc (.cells cs.toArray e), ?_, fun a' hF' => k _ a' _ hF' (hH.alloc _)⟩
  simp [execOp, Instr.box, newVar, newRow, hF.ev hx, hv]
def Zero (P : Program) (e : TypeId) (cs : List Value) : Prop := (P.info? e).map (fun i => i.zero.map Value.cells) = some (some cs.toArray)
theorem Zero.run {e : TypeId} {cs : List Value} (h : Zero P e cs) (w : World) : ∃ z, (zeroValue e).run P w = .ok z w ∧ z.cells = cs.toArray := by
  unfold Zero at h
  cases hq : P.info? e with
  | none => simp [hq] at h
  | some i =>
    simp [hq] at h
    obtain ⟨z, hz, hc⟩ := h
    exact ⟨z, by simp [zeroValue, typeInfo, hq, hz], hc⟩
theorem J.alloc {e : TypeId} {cs : List Value} (hz : Zero P e cs) (hd : Nat.blt d n = true)
    (k : ∀ g, J P ops Q n B H0 rest ((d, .pointer (some ⟨g, 0, none⟩)) :: us) H (obj g (.cells cs.toArray e (0, 0)) :: L)) :
    J P ops Q n B H0 (⟨some d, .alloc e, t, p, af, none⟩ :: rest) us H L := by
  refine J.val hd fun a w hF hH => ⟨.pointer (some ⟨w.heap.size, 0, none⟩), w.alloc (.cells cs.toArray e), ?_, fun a' hF' => k _ a' _ hF' (hH.alloc _)⟩
  obtain ⟨z, hr, hc⟩ := hz.run w
  simp [execOp, Instr.alloc, newVar, newRow, hr, hc]

/-- a store into a block of the call's own -/
theorem J.stores {ty e : TypeId} {g k : Nat} {cs vs : List Value} {v : Value} (hx : opv us x = some (.pointer (some ⟨g, k, none⟩))) (hy : opv us y = some v) (hv : v.cells = vs.toArray) (h1 : ∀ u ∈ vs, u.oneCell' = true)
    (hs : Size P ty vs.length) (hl : k + vs.length ≤ cs.length) (hat : At L (obj g (.cells cs.toArray e (0, 0))) (obj g (.cells (cs.take k ++ vs ++ cs.drop (k + vs.length)).toArray e (0, 0))) L')
    (hk : J P ops Q n B H0 rest us H L') : J P ops Q n B H0 (⟨none, .store ty x y, t, p, af, none⟩ :: rest) us H L := by
  refine J.unit fun a w hF hH => ⟨_, ?_, hk a _ hF (hH.setRow hat)⟩
  have hg : w.heap[g]? = some (.cells cs.toArray e (0, 0)) := (hH.objs _ hat.mem).1
  have := run_storeCells_at P g k e vs 0 cs.toArray w hg (by simpa using hl) h1
  simp only [Nat.add_zero, List.toList_toArray] at this
  simp [execOp, Instr.storeAt, Instr.sureAddr, storeVar, hF.ev hx, hF.ev hy, hv, hs.run, this]
theorem set_eq_take_drop {α : Type} (cs : List α) (k : Nat) (v : α) (h : k < cs.length) : cs.take k ++ [v] ++ cs.drop (k + 1) = cs.set k v := by
  rw [List.set_eq_take_append_cons_drop, if_pos h]
  simp
theorem J.store {ty e : TypeId} {g k : Nat} {cs : List Value} {v : Value} (hx : opv us x = some (.pointer (some ⟨g, k, none⟩))) (hy : opv us y = some v) (hv : v.cells = #[v]) (h1 : v.oneCell' = true)
    (hs : Size P ty 1) (hl : k < cs.length) (hat : At L (obj g (.cells cs.toArray e (0, 0))) (obj g (.cells (cs.set k v).toArray e (0, 0))) L')
    (hk : J P ops Q n B H0 rest us H L') : J P ops Q n B H0 (⟨none, .store ty x y, t, p, af, none⟩ :: rest) us H L :=
  J.stores (cs := cs) (vs := [v]) hx hy hv (by simpa using h1) hs (by simp; omega) (by simpa [set_eq_take_drop cs k v hl] using hat) hk
theorem J.storeAll {ty e : TypeId} {g : Nat} {cs vs : List Value} (hx : opv us x = some (.pointer (some ⟨g, 0, none⟩))) (hy : opv us y = some (.agg vs.toArray)) (h1 : ∀ u ∈ vs, u.oneCell' = true)
    (hs : Size P ty vs.length) (hl : cs.length = vs.length) (hat : At L (obj g (.cells cs.toArray e (0, 0))) (obj g (.cells vs.toArray e (0, 0))) L')
    (hk : J P ops Q n B H0 rest us H L') : J P ops Q n B H0 (⟨none, .store ty x y, t, p, af, none⟩ :: rest) us H L :=
  J.stores (cs := cs) (vs := vs) hx hy rfl h1 hs (by omega) (by simpa [hl, List.drop_eq_nil_of_le] using hat) hk

/-! ### slices made -/
theorem made_flat (z : List Value) (c : Nat) : madeCells z.toArray (c * z.length) = ((List.replicate c z).flatten).toArray := by
  apply Array.ext'
  apply List.ext_getElem?
  intro i
  have hlen : ((List.replicate c z).flatten).length = c * z.length := by simp [List.length_flatten]
  have hsz : (madeCells z.toArray (c * z.length)).toList.length = c * z.length := by simp [madeCells]
  rcases Nat.lt_or_ge i (c * z.length) with hi | hi
  · have hz : 0 < z.length := by
      rcases Nat.eq_zero_or_pos z.length with h0 | h0
      · rw [h0, Nat.mul_zero] at hi; omega
      · exact h0
    have hm : i % z.length < z.length := Nat.mod_lt _ hz
    have key : ∀ (c i : Nat), i < c * z.length → ((List.replicate c z).flatten)[i]? = z[i % z.length]? := by
      intro c
      induction c with
      | zero => intro i h; omega
      | succ c ih =>
        intro i h
        rw [List.replicate_succ, List.flatten_cons]
        rcases Nat.lt_or_ge i z.length with hl | hl
        · rw [List.getElem?_append_left hl, Nat.mod_eq_of_lt hl]
        · rw [List.getElem?_append_right hl, ih _ (by rw [Nat.add_mul, Nat.one_mul] at h; omega), ← Nat.mod_eq_sub_mod hl]
    rw [key c i hi]
    simp [madeCells, hi, hm, List.getElem?_eq_getElem hm]
  · rw [List.getElem?_eq_none (by omega), List.getElem?_eq_none (by simp only [List.toList_toArray]; omega)]
def Bytes (P : Program) (e : TypeId) (m : Nat) : Prop := (P.info? e).map (·.bytes) = some m
theorem info_of {e : TypeId} {z : List Value} {bytes : Nat} (hz : Zero P e z) (hs : Size P e z.length) (hb : Bytes P e bytes) : ∃ i z', P.info? e = some i ∧ i.zero = some z' ∧ z'.cells = z.toArray ∧ i.size = z.length ∧ i.bytes = bytes := by
  unfold Zero at hz
  unfold Size at hs
  unfold Bytes at hb
  cases hq : P.info? e with
  | none => simp [hq] at hs
  | some i =>
    simp [hq] at hz hs hb
    obtain ⟨z', h1, h2⟩ := hz
    exact ⟨i, z', rfl, h1, h2, hs, hb⟩
/-- make([]T, l, c) -/
theorem J.make {ty e : TypeId} {k k' : IntKind} {i j : Int} {l c bytes : Nat} {z : List Value} (hu : P.underlying ty = some (.slice e)) (hz : Zero P e z) (hs : Size P e z.length) (hb : Bytes P e bytes)
    (hx : opv us x = some (.int k i)) (hy : opv us y = some (.int k' j)) (hi : i = (l : Int)) (hj : j = (c : Int)) (hlc : l ≤ c) (hl : c ≤ 9223372036854775807) (hbm : c * bytes ≤ 281474976710656) (hd : Nat.blt d n = true)
    (hk : ∀ g, J P ops Q n B H0 rest ((d, .slice (some ⟨g, 0, none⟩) l c) :: us) H (obj g (.cells ((List.replicate c z).flatten).toArray e (0, 0)) :: L)) :
    J P ops Q n B H0 (⟨some d, .makeSlice ty x y, t, p, af, none⟩ :: rest) us H L := by
  refine J.val hd fun a w hF hH => ⟨.slice (some ⟨w.heap.size, 0, none⟩) l c, w.alloc (.cells ((List.replicate c z).flatten).toArray e), ?_, fun a' hF' => hk _ a' _ hF' (hH.alloc _)⟩
  subst hi
  subst hj
  obtain ⟨i, z', hq, hiz, hzc, his, hib⟩ := info_of hz hs hb
  have := run_make (P := P) w ty e i z' hu hq hiz k k' l c (by omega) (by omega) (by rw [hib, Int.mul_comm]; have h9 := Int.ofNat_le.2 hbm; rw [Int.natCast_mul] at h9; exact h9) (by omega)
  rw [hzc, his, Int.toNat_natCast, Int.toNat_natCast, made_flat] at this
  simp [execOp, hF.ev hx, hF.ev hy, this]

/-- []T{} -/
theorem J.lit0 {ty e : TypeId} {sz : Nat} (hu : P.underlying ty = some (.slice e)) (hs : Size P e sz) (hd : Nat.blt d n = true)
    (hk : ∀ g, J P ops Q n B H0 rest ((d, .slice (some ⟨g, 0, none⟩) 0 0) :: us) H (obj g (.cells ([] : List Value).toArray e (0, 0)) :: L)) :
    J P ops Q n B H0 (⟨some d, .buildSlice ty 0 #[], t, p, af, none⟩ :: rest) us H L := by
  refine J.val hd fun a w hF hH => ⟨.slice (some ⟨w.heap.size, 0, none⟩) 0 0, w.alloc (.cells ([] : List Value).toArray e), ?_, fun a' hF' => hk _ a' _ hF' (hH.alloc _)⟩
  have h9 : ∀ f : Nat → Value, (Array.range 0).map f = #[] := fun f => Array.ext' (by simp)
  simp [execOp, Instr.buildSlice, run_underlying hu, hs.run, Instr.fill, newRow, h9]
/-- []T{x}: the list of one that append is given -/
theorem J.lit1 {ty e : TypeId} {v : Value} {z cs : List Value} (hu : P.underlying ty = some (.slice e)) (hz : Zero P e z) (hs : Size P e z.length) (hz0 : Nat.blt 0 z.length = true) (hzs : Nat.blt z.length 1000 = true) (hx : opv us x = some v) (hv : v.cells = cs.toArray) (hl : cs.length = z.length) (hd : Nat.blt d n = true)
    (hk : ∀ g, J P ops Q n B H0 rest ((d, .slice (some ⟨g, 0, none⟩) 1 1) :: us) H (obj g (.cells cs.toArray e (0, 0)) :: L)) :
    J P ops Q n B H0 (⟨some d, .buildSlice ty 1 #[(0, x)], t, p, af, none⟩ :: rest) us H L := by
  refine J.val hd fun a w hF hH => ⟨.slice (some ⟨w.heap.size, 0, none⟩) 1 1, w.alloc (.cells cs.toArray e), ?_, fun a' hF' => hk _ a' _ hF' (hH.alloc _)⟩
  obtain ⟨z', hr, hc⟩ := hz.run w
  have h1 : 0 < z.length := Nat.le_of_ble_eq_true hz0
  have h2 : z.length < 1000 := Nat.le_of_ble_eq_true hzs
  have hne : z.length ≠ 0 := by omega
  have hm : (Array.range z.length).map (fun i => z.toArray[i % z.length]!) = z.toArray := by
    have := made_flat z 1
    simpa [madeCells] using this
  have hfold : ∀ (cs acc : List Value) (k : Nat), (cs.zipIdx k).foldl (fun (acc : Array Value) (q : Value × Nat) => acc.setIfInBounds q.2 q.1) acc.toArray = (acc.take k ++ cs ++ acc.drop (k + cs.length)).toArray ∨ acc.length < k + cs.length := by
    intro cs
    induction cs with
    | nil => intro acc k; left; simp
    | cons c cs ih =>
      intro acc k
      rcases Nat.lt_or_ge acc.length (k + (c :: cs).length) with h | h
      · right; exact h
      · left
        rcases ih (acc.set k c) (k + 1) with h' | h'
        · simp only [List.zipIdx_cons, List.foldl_cons, List.setIfInBounds_toArray, h']
          have := Go.list_seg_step acc k c cs (by simpa using h)
          congr 1
        · simp at h h'; omega
  have hf := hfold cs z 0
  rcases hf with hf | hf
  · have hf' : (cs.zipIdx 0).foldl (fun (acc : Array Value) (q : Value × Nat) => acc.setIfInBounds q.2 q.1) z.toArray = cs.toArray := by
      rw [hf]
      simp [hl]
    have : ¬ (z.length > 16777216) := by omega
    simp [execOp, Instr.buildSlice, run_underlying hu, hs.run, Instr.fill, newRow, hF.ev hx, hv, hl, hne, this, hr, hc, hm]
    have hm' : (Array.range z.length).map (fun i => z[i % z.length]?.getD default) = z.toArray := by simpa using hm
    rw [hm', hf']
  · omega
/-- []T{x, y}, one cell each -/
theorem J.lit2 {ty e : TypeId} {u v z : Value} (hu : P.underlying ty = some (.slice e)) (hz : Zero P e [z]) (hs : Size P e 1) (hx : opv us x = some u) (hy : opv us y = some v) (hcu : u.cells = #[u]) (hcv : v.cells = #[v]) (hd : Nat.blt d n = true)
    (hk : ∀ g, J P ops Q n B H0 rest ((d, .slice (some ⟨g, 0, none⟩) 2 2) :: us) H (obj g (.cells [u, v].toArray e (0, 0)) :: L)) :
    J P ops Q n B H0 (⟨some d, .buildSlice ty 2 #[(0, x), (1, y)], t, p, af, none⟩ :: rest) us H L := by
  refine J.val hd fun a w hF hH => ⟨.slice (some ⟨w.heap.size, 0, none⟩) 2 2, w.alloc (.cells [u, v].toArray e), ?_, fun a' hF' => hk _ a' _ hF' (hH.alloc _)⟩
  obtain ⟨z', hr, hc⟩ := hz.run w
  simp [execOp, Instr.buildSlice, run_underlying hu, hs.run, Instr.fill, newRow, hF.ev hx, hF.ev hy, hcu, hcv, hr, hc, Array.setIfInBounds, show Array.range 2 = #[0, 1] from by decide]
theorem J.lit3 {ty e : TypeId} {u v u' z : Value} {x' : Operand} (hu : P.underlying ty = some (.slice e)) (hz : Zero P e [z]) (hs : Size P e 1) (hx : opv us x = some u) (hy : opv us y = some v) (hx' : opv us x' = some u') (hcu : u.cells = #[u]) (hcv : v.cells = #[v]) (hcu' : u'.cells = #[u']) (hd : Nat.blt d n = true)
    (hk : ∀ g, J P ops Q n B H0 rest ((d, .slice (some ⟨g, 0, none⟩) 3 3) :: us) H (obj g (.cells [u, v, u'].toArray e (0, 0)) :: L)) :
    J P ops Q n B H0 (⟨some d, .buildSlice ty 3 #[(0, x), (1, y), (2, x')], t, p, af, none⟩ :: rest) us H L := by
  refine J.val hd fun a w hF hH => ⟨.slice (some ⟨w.heap.size, 0, none⟩) 3 3, w.alloc (.cells [u, v, u'].toArray e), ?_, fun a' hF' => hk _ a' _ hF' (hH.alloc _)⟩
  obtain ⟨z', hr, hc⟩ := hz.run w
  simp [execOp, Instr.buildSlice, run_underlying hu, hs.run, Instr.fill, newRow, hF.ev hx, hF.ev hy, hF.ev hx', hcu, hcv, hcu', hr, hc, Array.setIfInBounds, show Array.range 3 = #[0, 1, 2] from by decide]

/-! ### rows that are owned: append, and what is done with them -/
theorem J.own0 (e : TypeId) (sz : Nat) (hk : J P ops Q n B H0 rest us H (own e sz none 0 0 [] :: L)) : J P ops Q n B H0 rest us H L :=
  fun a w hF hH => hk a w hF (hH.new (w' := w) ⟨rfl, rfl, rfl, Nat.le_refl _, fun _ _ _ => rfl⟩ ⟨by simp, .inl ⟨rfl, rfl, rfl⟩⟩ (fun b hb => by obtain ⟨_, h, _⟩ := hb; cases h))
theorem Hp.reAt {A A' : SA} {w : World} (h : Hp B H0 H L w) (hat : At L A A' L') (hA : A'.holds (hp w)) (hfp : ∀ b, A'.fp b → A.fp b) : Hp B H0 H L' w :=
  h.upd hat ⟨rfl, rfl, rfl, Nat.le_refl _, fun _ _ _ => rfl⟩ hA (fun b hb => ⟨.inl (hfp b hb), ((h.objs A hat.mem).2 b (hfp b hb)).2.1⟩)
/-- A block that was made is a row that is owned. -/
theorem own_of_obj {g : Nat} {cs : List Value} {e : TypeId} {m c sz : Nat} {w : World} (hH : Hp B H0 H L w) (hc : c * sz = cs.length) (hm : m ≤ c) (hc' : c ≤ maxLen) (hat : At L (obj g (.cells cs.toArray e (0, 0))) (own e sz (some ⟨g, 0, none⟩) m c (cs.take (m * sz))) L') :
    Hp B H0 H L' w := by
  have hg := (hH.objs _ hat.mem).1
  refine hH.reAt hat ⟨?_, .inr ⟨g, cs.toArray, rfl, hg, hm, hc', by simpa using hc.symm, by simp⟩⟩ (fun b hb => ?_)
  · have : m * sz ≤ c * sz := Nat.mul_le_mul_right _ hm
    simp; omega
  · obtain ⟨p, hp1, hp2⟩ := hb
    cases hp1
    exact hp2.symm
theorem J.toOwn {g : Nat} {cs : List Value} {e : TypeId} (m c sz : Nat) (hc : c * sz = cs.length) (hm : m ≤ c) (hc' : c ≤ maxLen) (hat : At L (obj g (.cells cs.toArray e (0, 0))) (own e sz (some ⟨g, 0, none⟩) m c (cs.take (m * sz))) L')
    (hk : J P ops Q n B H0 rest us H L') : J P ops Q n B H0 rest us H L := fun a w hF hH => hk a w hF (own_of_obj hH hc hm hc' hat)
/-- what is owned in the kit's words -/
theorem own_row {e : TypeId} {sz m c : Nat} {q : Option Addr} {cells : List Value} {w : World} (hH : Hp B H0 H L w) (hat : At L (own e sz q m c cells) (own e sz q m c cells) L) : w.ownsRow B.heap.size e sz (.slice q m c) m cells := by
  obtain ⟨⟨h1, h2⟩, hfp⟩ := hH.objs _ hat.mem
  refine ⟨h1, ?_⟩
  rcases h2 with ⟨rfl, rfl, rfl⟩ | ⟨g, cur, rfl, hg, h3, h4, h5, h6⟩
  · exact .inl ⟨rfl, rfl⟩
  · exact .inr ⟨g, c, cur, rfl, (hfp g ⟨_, rfl, rfl⟩).1, hg, h3, h4, h5, h6⟩
theorem own_slice {e : TypeId} {sz m : Nat} {v : Value} {cells : List Value} {w : World} {b : Nat} (h : w.ownsRow b e sz v m cells) : ∃ q c, v = .slice q m c ∧ (own e sz q m c cells).holds (hp w) ∧ ∀ k, (own e sz q m c cells).fp k ↔ v.ownBlock = some k := by
  obtain ⟨h1, h2⟩ := h
  rcases h2 with ⟨rfl, rfl⟩ | ⟨g, c, cur, rfl, _, hg, h3, h4, h5, h6⟩
  · exact ⟨none, 0, rfl, ⟨h1, .inl ⟨rfl, rfl, rfl⟩⟩, fun k => by simp [own, Value.ownBlock]⟩
  · exact ⟨some ⟨g, 0, none⟩, c, rfl, ⟨h1, .inr ⟨g, cur, rfl, hg, h3, h4, h5, h6⟩⟩, fun k => by simp [own, Value.ownBlock]⟩

theorem grown_chg {w w' : World} {row : Option Nat} (h : w.grownBy w' row) : Chg (fun b => row = some b) w w' :=
  ⟨h.os, h.tape, h.output, h.size, fun b hb hr => h.block b hb (fun e => hr e.symm)⟩
/-- append(s, x): one element more. The list of one is dropped. -/
theorem J.append {ty e : TypeId} {q : Option Addr} {m c g bytes : Nat} {cells ds z : List Value} (hu : P.underlying ty = some (.slice e)) (hz : Zero P e z) (hs : Size P e z.length) (hb : Bytes P e bytes) (hz0 : Nat.blt 0 z.length = true)
    (hx : opv us x = some (.slice q m c)) (hy : opv us y = some (.slice (some ⟨g, 0, none⟩) 1 1)) (hl : ds.length = z.length) (h1 : ∀ u ∈ ds, u.oneCell' = true) (hm : (m + 1) * bytes ≤ 140737488355328) (hm' : m + 1 ≤ maxLen)
    {M : List SA} (hat : At M (own e z.length q m c cells) (own e z.length q m c cells) M) {L' : Option Addr → Nat → List SA} (hat' : ∀ q' c', At M (own e z.length q m c cells) (own e z.length q' (m + 1) c' (cells ++ ds)) (L' q' c')) (hd : Nat.blt d n = true)
    (hk : ∀ q' c', J P ops Q n B H0 rest ((d, .slice q' (m + 1) c') :: us) H (L' q' c')) :
    J P ops Q n B H0 (⟨some d, .call { callee := .builtin .append, args := #[x, y], argTypes := #[ty, ty] }, t, p, af, none⟩ :: rest) us H (obj g (.cells ds.toArray e (0, 0)) :: M) := by
  refine J.val hd fun a w hF hH => ?_
  obtain ⟨i, z', hq, hiz, hzc, his, hib⟩ := info_of hz hs hb
  have hrow := own_row hH (At.s hat)
  have hg : w.heap[g]? = some (.cells ds.toArray e (0, 0)) := (hH.objs _ (List.mem_cons_self)).1
  have hnews : ∀ j u, ds[j]? = some u → w.cell? ((⟨g, 0, none⟩ : Addr).add j) = some u := fun j u hj => by
    rw [add_at]; simp [World.cell?, hg]; exact hj
  obtain ⟨v', w', hrun, how, hgr, _, hob⟩ := run_append_own_at (P := P) w B.heap.size ty t e i z' z.length bytes hu hq hiz his hib (by rw [hzc]; simp) (Nat.le_of_ble_eq_true hz0) (.slice q m c) m cells hrow ⟨g, 0, none⟩ 1 1 ds (by rw [hl, Nat.one_mul]) hnews h1 hm' hm hH.below.size
  obtain ⟨q', c', rfl, hho, hfp⟩ := own_slice how
  refine ⟨_, w', ?_, fun a' hF' => hk q' c' a' w' hF' ?_⟩
  · simp [execOp, resolve, invoke, builtin, hF.ev hx, hF.ev hy, hrun]
  · refine (hH.tail).upd (hat' q' c') (A' := own e z.length q' (m + 1) c' (cells ++ ds)) ?_ hho (fun b hb => ?_)
    · have := grown_chg hgr
      refine ⟨this.os, this.tape, this.output, this.size, fun b hb hn => this.same b hb (fun e => hn ?_)⟩
      cases q with
      | none => simp [Value.ownBlock] at e
      | some p => simp [Value.ownBlock] at e; exact ⟨p, rfl, e⟩
    · have hv := (hfp b).1 hb
      have hlt := World.ownsRow.lt how b hv
      refine ⟨?_, hlt.2⟩
      rcases Nat.lt_or_ge b w.heap.size with h | h
      · left
        rcases hob with hob | hob
        · rw [hv] at hob
          cases q with
          | none => simp [Value.ownBlock] at hob
          | some p => simp [Value.ownBlock] at hob; exact ⟨p, rfl, hob.symm⟩
        · rw [hv] at hob
          injection hob with hob
          omega
      · exact .inr h
end
end Go.Proofs.YtbjhllmcnfncdaaDoor.G
