/- What is made: rows by make, by literals and by append; structs. No condition. -/
import Derived.Test.YtodmnjbchegnaaaGAlg
import Derived.WalkSpells
namespace Go.Proofs.Ytodmnjbchegnaaa.G
open Go Go.RowKit

/-- an operation that makes something: V its value, A what is new -/
def MK (P : Program) (n : Nat) (us : List (Nat × Value)) (H : HP) (o : Op) (t : TypeId) (V : Option Addr → Nat → Value) (A : Option Addr → Nat → SA) : Prop :=
  ∀ (B : World) (H0 : HP) (L : List SA) (d : Option Tmp) (p : String) (af : Array Edge) (a : Act) (w : World), Fr n us a → Hp B H0 H L w → ∃ q c w', (execOp a.eval ⟨d, o, t, p, af, none⟩).run P w = .ok (.value (V q c)) w' ∧ Hp B H0 H (A q c :: L) w'
section
variable {P : Program} {ops : Array Oper} {Q : Exit → Act → World → Prop} {n : Nat} {B : World} {H0 H : HP} {rest : List Oper} {us : List (Nat × Value)} {L L' : List SA} {t : TypeId} {p : String} {af : Array Edge} {d : Nat} {x y : Operand}
theorem J.mk {o : Op} {V : Option Addr → Nat → Value} {A : Option Addr → Nat → SA} (h : MK P n us H o t V A) (hd : Nat.blt d n = true) (hk : ∀ q c, J P ops Q n B H0 rest ((d, V q c) :: us) H (A q c :: L)) :
    J P ops Q n B H0 (⟨some d, o, t, p, af, none⟩ :: rest) us H L :=
  J.val hd fun a w hF hH => by
    obtain ⟨q, c, w', h1, h2⟩ := h B H0 L (some d) p af a w hF hH
    exact ⟨_, w', h1, fun a' hF' => hk q c a' w' hF' h2⟩
theorem HJ.mk {id : Nat} {l : List Oper} {pre : List (List Nat)} {k : Nat} {vs : List (Nat × Vl)} {o : Op} {dd : Option Nat} {V : Option Addr → Nat → Value} {A : Option Addr → Nat → SA} (h : ∀ gh, MK P n (slotsV vs gh (pre.getD k []) ++ us) H o t V A)
    (kk : HJ P id l Q n B H0 us H L pre rest (k + 1) ((k, ⟨dd, fun x => V x.1 x.2, fun x => [A x.1 x.2]⟩) :: vs)) : HJ P id l Q n B H0 us H L pre (⟨dd, o, t, p, af, none⟩ :: rest) k vs :=
  HJ.step (x := ⟨dd, fun x => V x.1 x.2, fun x => [A x.1 x.2]⟩) rfl (fun gh X a w K Q hF hH hK => by
    rw [if_pos (by simp [Region.wanted])]
    refine .inl ?_
    obtain ⟨q, c, w', h1, h2⟩ := h gh B H0 (X ++ L) dd p af a w hF hH
    unfold Oper.wp
    rw [h1]
    exact hK (q, c) w' h2) kk
theorem mk_block {o : Op} {V : Option Addr → Nat → Value} {cs : List Value} {e : TypeId} {m c sz : Nat} (hc : c * sz = cs.length) (hm : m ≤ c) (hc' : c ≤ maxLen)
    (h : ∀ (d : Option Tmp) (p : String) (af : Array Edge) (a : Act) (w : World), Fr n us a → (execOp a.eval ⟨d, o, t, p, af, none⟩).run P w = .ok (.value (V (some ⟨w.heap.size, 0, none⟩) c)) (w.alloc (.cells cs.toArray e))) :
    MK P n us H o t V (fun q c => own e sz q m c (cs.take (m * sz))) := fun B H0 L d p af a w hF hH =>
  ⟨_, c, _, h d p af a w hF, own_of_obj (hH.alloc _) hc hm hc' .z⟩
theorem MK.makeI {ty e : TypeId} {k k' : IntKind} {i j : Int} {m : Nat} (hu : P.underlying ty = some (.slice e)) (hz : Zero P e [.int .i64 0]) (hs : Size P e 1) (hb : Bytes P e 8)
    (hx : opv us x = some (.int k i)) (hy : opv us y = some (.int k' j)) (hi : i = (m : Int)) (hj : j = (m : Int)) (hl : m ≤ 35184372088832) :
    MK P n us H (.makeSlice ty x y) t (fun q c => .slice q (List.replicate m (0 : Int)).length c) (fun q c => own e 1 q (List.replicate m (0 : Int)).length c (intsC (List.replicate m 0))) := by
  subst hi
  subst hj
  obtain ⟨i, z', hq, hiz, hzc, his, hib⟩ := info_of hz hs hb
  have hfl : (List.replicate m [Value.int .i64 0]).flatten = intsC (List.replicate m 0) := by simp [intsC]
  have := mk_block (P := P) (n := n) (us := us) (H := H) (o := .makeSlice ty x y) (t := t) (V := fun q c => .slice q (List.replicate m (0 : Int)).length c) (cs := intsC (List.replicate m 0)) (e := e) (m := m) (c := m) (sz := 1) (by simp) (Nat.le_refl _) (by simp only [maxLen]; omega) (fun d p af a w hF => by
    have := run_make (P := P) w ty e i z' hu hq hiz k k' m m (by omega) (by omega) (by rw [hib]; omega) (by omega)
    rw [hzc, his] at this
    have e2 := made_flat [Value.int .i64 0] m
    rw [hfl] at e2
    simp only [Int.toNat_natCast, List.length_singleton] at this e2
    rw [e2] at this
    simp [execOp, hF.ev hx, hF.ev hy, this])
  rw [List.take_of_length_le (by simp)] at this
  simpa using this
theorem MK.makeF (T : TypeId) {ty e : TypeId} {k k' : IntKind} {i j : Int} {m : Nat} (hu : P.underlying ty = some (.slice e)) (hz : Zero P e [.slice none 0 0]) (hs : Size P e 1) (hb : Bytes P e 24)
    (hx : opv us x = some (.int k i)) (hy : opv us y = some (.int k' j)) (hi : i = (m : Int)) (hj : j = (m : Int)) (hl : m ≤ 1099511627776) :
    MK P n us H (.makeSlice ty x y) t (fun q c => .slice q (List.replicate m ([] : List Term)).length c) (fun q c => ownFs e T q c nilVs (List.replicate m [])) := by
  subst hi
  subst hj
  obtain ⟨i, z', hq, hiz, hzc, his, hib⟩ := info_of hz hs hb
  have hfl : (List.replicate m [Value.slice none 0 0]).flatten = List.replicate m (Value.slice none 0 0) := by simp
  intro B H0 L d p af a w hF hH
  have hrun := run_make (P := P) w ty e i z' hu hq hiz k k' m m (by omega) (by omega) (by rw [hib]; omega) (by omega)
  rw [hzc, his] at hrun
  have e2 := made_flat [Value.slice none 0 0] m
  rw [hfl] at e2
  simp only [Int.toNat_natCast, List.length_singleton] at hrun e2
  rw [e2] at hrun
  refine ⟨some ⟨w.heap.size, 0, none⟩, m, w.alloc (.cells (List.replicate m (Value.slice none 0 0)).toArray e), ?_, ?_⟩
  · simp [execOp, hF.ev hx, hF.ev hy, hrun]
  · have h1 := own_full (e := e) m 1 (hH.alloc (.cells (List.replicate m (Value.slice none 0 0)).toArray e)) (by simp) (by simp only [maxLen]; omega)
    exact h1.ownFs0 T
theorem MK.lit0 {ty e : TypeId} {sz : Nat} (hu : P.underlying ty = some (.slice e)) (hs : Size P e sz) : MK P n us H (.buildSlice ty 0 #[]) t (fun q c => .slice q 0 c) (fun q c => own e sz q 0 c []) := by
  intro B H0 L d p af a w hF hH
  refine ⟨some ⟨w.heap.size, 0, none⟩, 0, w.alloc (.cells ([] : List Value).toArray e), ?_, own_of_obj (cs := []) (m := 0) (c := 0) (sz := sz) (hH.alloc _) (by simp) (Nat.le_refl _) (by simp) (by simpa using At.z)⟩
  have h9 : ∀ f : Nat → Value, (Array.range 0).map f = #[] := fun f => Array.ext' (by simp)
  simp [execOp, Instr.buildSlice, run_underlying hu, hs.run, Instr.fill, newRow, h9]
theorem MK.lit0I {ty e : TypeId} (hu : P.underlying ty = some (.slice e)) (hs : Size P e 1) : MK P n us H (.buildSlice ty 0 #[]) t (fun q c => .slice q ([] : List Int).length c) (fun q c => own e 1 q ([] : List Int).length c (intsC [])) := MK.lit0 hu hs
/-- s == nil -/
theorem PR.eqlNil {xt yt e : TypeId} {q : Option Addr} {m c : Nat} (hu : P.underlying xt = some (.slice e)) (hx : opv us x = some (.slice q m c)) (hy : opv us y = some (.slice none 0 0)) : PR P n B H0 us H L (.binOp .eql xt x y yt) t (.bool q.isNone) :=
  fun _ _ _ _ a w hF _ => by simp [execOp, hF.ev hx, hF.ev hy, eqGuard_at_slice, Lib.run_eql_slice_nil w xt e q m c 0 0 hu]
theorem Ints.none_nil {H : HP} {q : Option Addr} {xs : List Int} (h : Ints H q xs) (hq : q.isNone = true) : xs = [] := by
  cases xs with
  | nil => rfl
  | cons x xs =>
    have := h.sm (i := 0) (by simp)
    cases q <;> simp at hq this
theorem Terms.none_nil {H : HP} {q : Option Addr} {xs : List Term} (h : Terms H q xs) (hq : q.isNone = true) : xs = [] := by
  cases xs with
  | nil => rfl
  | cons x xs =>
    have := h.sm (i := 0) (by simp)
    cases q <;> simp at hq this
/-- T{..} -/
theorem PR.build1 {ty : TypeId} {i : Nat} {u : Value} {cs : List Value} (hx : opv us x = some u) (hb : ∀ w, (Instr.build ty #[(i, u)]).run P w = .ok (.agg cs.toArray) w) : PR P n B H0 us H L (.build ty #[(i, x)]) t (.agg cs.toArray) :=
  fun _ _ _ _ a w hF _ => by simp [execOp, hF.ev hx, hb w]
theorem PR.build2 {ty : TypeId} {i j : Nat} {u v : Value} {cs : List Value} (hx : opv us x = some u) (hy : opv us y = some v) (hb : ∀ w, (Instr.build ty #[(i, u), (j, v)]).run P w = .ok (.agg cs.toArray) w) : PR P n B H0 us H L (.build ty #[(i, x), (j, y)]) t (.agg cs.toArray) :=
  fun _ _ _ _ a w hF _ => by simp [execOp, hF.ev hx, hF.ev hy, hb w]
/-- append(s, v): one number more -/
theorem J.appendI {ty e : TypeId} {q : Option Addr} {c g : Nat} {xs : List Int} {v : Int} (hu : P.underlying ty = some (.slice e)) (hz : Zero P e [.int .i64 0]) (hs : Size P e 1) (hb : Bytes P e 8)
    (hx : opv us x = some (.slice q xs.length c)) (hy : opv us y = some (.slice (some ⟨g, 0, none⟩) 1 1)) (hm : xs.length + 1 ≤ 1099511627776)
    {M : List SA} (hat : At M (own e 1 q xs.length c (intsC xs)) (own e 1 q xs.length c (intsC xs)) M) {L' : Option Addr → Nat → List SA} (hat' : ∀ q' c', At M (own e 1 q xs.length c (intsC xs)) (own e 1 q' (xs ++ [v]).length c' (intsC (xs ++ [v]))) (L' q' c')) (hd : Nat.blt d n = true)
    (hk : ∀ q' c', J P ops Q n B H0 rest ((d, .slice q' (xs ++ [v]).length c') :: us) H (L' q' c')) :
    J P ops Q n B H0 (⟨some d, .call { callee := .builtin .append, args := #[x, y], argTypes := #[ty, ty] }, t, p, af, none⟩ :: rest) us H (obj g (.cells [Value.int .i64 v].toArray e (0, 0)) :: M) := by
  have el : (xs ++ [v]).length = xs.length + 1 := by simp
  have ec : intsC (xs ++ [v]) = intsC xs ++ [Value.int .i64 v] := by simp [intsC]
  rw [el, ec] at hat'
  rw [el] at hk
  exact J.append (z := [.int .i64 0]) (ds := [.int .i64 v]) hu hz hs hb rfl hx hy rfl (by simp [Value.oneCell']) (by omega) (by simp only [maxLen]; omega) hat hat' hd hk
/-- append(s, ys...) -/
theorem J.appendHI {ty e : TypeId} {q qt : Option Addr} {c ct : Nat} {xs ys : List Int} (hu : P.underlying ty = some (.slice e)) (hz : Zero P e [.int .i64 0]) (hs : Size P e 1) (hb : Bytes P e 8)
    (hx : opv us x = some (.slice q xs.length c)) (hy : opv us y = some (.slice qt ys.length ct)) (hys : Ints H qt ys) (hm : xs.length + ys.length ≤ 1099511627776)
    (hat : At L (own e 1 q xs.length c (intsC xs)) (own e 1 q xs.length c (intsC xs)) L) {L' : Option Addr → Nat → List SA} (hat' : ∀ q' c', At L (own e 1 q xs.length c (intsC xs)) (own e 1 q' (xs ++ ys).length c' (intsC (xs ++ ys))) (L' q' c')) (hd : Nat.blt d n = true)
    (hk : ∀ q' c', J P ops Q n B H0 rest ((d, .slice q' (xs ++ ys).length c') :: us) H (L' q' c')) :
    J P ops Q n B H0 (⟨some d, .call { callee := .builtin .append, args := #[x, y], argTypes := #[ty, ty] }, t, p, af, none⟩ :: rest) us H L := by
  have el : (xs ++ ys).length = xs.length + ys.length := by simp
  have ec : intsC (xs ++ ys) = intsC xs ++ intsC ys := by simp [intsC]
  rw [el, ec] at hat'
  rw [el] at hk
  exact J.appendH (z := [.int .i64 0]) (ds := intsC ys) hu hz hs hb rfl hx hy (by simp) (fun j v hj => by
    have hl : j < ys.length := by simpa using (List.getElem?_eq_some_iff.1 hj).1
    rw [intsC_get hl] at hj
    cases hj
    exact hys j hl) (intsC_one ys) (by omega) (by simp only [maxLen]; omega) hat hat' hd hk
end
end Go.Proofs.Ytodmnjbchegnaaa.G
