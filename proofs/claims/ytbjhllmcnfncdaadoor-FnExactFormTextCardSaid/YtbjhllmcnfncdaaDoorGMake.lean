/- What is made: rows by make, by literals and by append; structs. No condition. -/
import Derived.Test.YtbjhllmcnfncdaaDoorGAlg
import Derived.WalkSpells
namespace Go.Proofs.YtbjhllmcnfncdaaDoor.G
open Go Go.RowKit

/-- an operation that makes something: V its value, A what is new -/
def MK (P : Program) (n : Nat) (us : List (Nat × Value)) (H : HP) (o : Op) (t : TypeId) (V : Option Addr → Nat → Value) (A : Option Addr → Nat → SA) : Prop :=
  ∀ (B : World) (H0 : HP) (L : List SA) (d : Option Tmp) (p : String) (af : Array Edge) (a : Act) (w : World), Fr n us a → Hp B H0 H L w → ∃ q c w', (execOp a.eval ⟨d, o, t, p, af, none⟩).run P w = .ok (.value (V q c)) w' ∧ Hp B H0 H (A q c :: L) w'
theorem Wfs.nil : Wfs [] := fun t ht => by simp at ht
theorem Wfs.one {t : Term} (h : t.wf) : Wfs [t] := fun x hx => by simp at hx; exact hx ▸ h
theorem Wfs.app {a b : List Term} (ha : Wfs a) (hb : Wfs b) : Wfs (a ++ b) := fun x hx => (List.mem_append.1 hx).elim (ha x) (hb x)
section
variable {P : Program} {ops : Array Oper} {Q : Exit → Act → World → Prop} {n : Nat} {B : World} {H0 H : HP} {rest : List Oper} {us : List (Nat × Value)} {L L' : List SA} {t : TypeId} {p : String} {af : Array Edge} {d : Nat} {x y : Operand}
theorem J.mk {o : Op} {V : Option Addr → Nat → Value} {A : Option Addr → Nat → SA} (h : MK P n us H o t V A) (hd : Nat.blt d n = true) (hk : ∀ q c, J P ops Q n B H0 rest ((d, V q c) :: us) H (A q c :: L)) :
    J P ops Q n B H0 (⟨some d, o, t, p, af, none⟩ :: rest) us H L :=
  J.val hd fun a w hF hH => by
    obtain ⟨q, c, w', h1, h2⟩ := h B H0 L (some d) p af a w hF hH
    exact ⟨_, w', h1, fun a' hF' => hk q c a' w' hF' h2⟩
theorem HJ.mk {id : Nat} {l : List Oper} {pre : List (List Nat)} {k : Nat} {vs : List (Nat × Vl)} {o : Op} {dd : Option Nat} {V : Option Addr → Nat → Value} {A : Option Addr → Nat → SA} (h : ∀ gh, MK P n (slotsV vs gh (pre.getD k []) ++ us) H o t V A)
    (kk : HJ P id l Q n B H0 us H L pre rest (k + 1) ((k, ⟨dd, fun x => V x.1 x.2, fun x => [A x.1 x.2]⟩) :: vs)) : HJ P id l Q n B H0 us H L pre (⟨dd, o, t, p, af, none⟩ :: rest) k vs :=
  HJ.step (x := ⟨dd, fun x => V x.1 x.2, fun x => [A x.1 x.2]⟩) rfl (fun gh X a w K Q hF hH hK => by
    rw [if_pos (by simp [Region.wanted])]
    refine .inl ?_
    obtain ⟨q, c, w', h1, h2⟩ := h gh B H0 (X ++ L) dd p af a w hF hH
    unfold Oper.wp
    rw [h1]
    exact hK (q, c) w' h2) kk
theorem mk_block {o : Op} {V : Option Addr → Nat → Value} {cs : List Value} {e : TypeId} {m c sz : Nat} (hc : c * sz = cs.length) (hm : m ≤ c) (hc' : c ≤ maxLen)
    (h : ∀ (d : Option Tmp) (p : String) (af : Array Edge) (a : Act) (w : World), Fr n us a → (execOp a.eval ⟨d, o, t, p, af, none⟩).run P w = .ok (.value (V (some ⟨w.heap.size, 0, none⟩) c)) (w.alloc (.cells cs.toArray e))) :
    MK P n us H o t V (fun q c => own e sz q m c (cs.take (m * sz))) := fun B H0 L d p af a w hF hH =>
  ⟨_, c, _, h d p af a w hF, own_of_obj (hH.alloc _) hc hm hc' .z⟩
theorem MK.makeI {ty e : TypeId} {k k' : IntKind} {i j : Int} {m : Nat} (hu : P.underlying ty = some (.slice e)) (hz : Zero P e [.int .i64 0]) (hs : Size P e 1) (hb : Bytes P e 8)
    (hx : opv us x = some (.int k i)) (hy : opv us y = some (.int k' j)) (hi : i = (m : Int)) (hj : j = (m : Int)) (hl : m ≤ 35184372088832) :
    MK P n us H (.makeSlice ty x y) t (fun q c => .slice q (List.replicate m (0 : Int)).length c) (fun q c => own e 1 q (List.replicate m (0 : Int)).length c (intsC (List.replicate m 0))) := by
  subst hi
  subst hj
  obtain ⟨i, z', hq, hiz, hzc, his, hib⟩ := info_of hz hs hb
  have hfl : (List.replicate m [Value.int .i64 0]).flatten = intsC (List.replicate m 0) := by simp [intsC]
  have := mk_block (P := P) (n := n) (us := us) (H := H) (o := .makeSlice ty x y) (t := t) (V := fun q c => .slice q (List.replicate m (0 : Int)).length c) (cs := intsC (List.replicate m 0)) (e := e) (m := m) (c := m) (sz := 1) (by simp) (Nat.le_refl _) (by simp only [maxLen]; omega) (fun d p af a w hF => by
    have := run_make (P := P) w ty e i z' hu hq hiz k k' m m (by omega) (by omega) (by rw [hib]; omega) (by omega)
    rw [hzc, his] at this
    have e2 := made_flat [Value.int .i64 0] m
    rw [hfl] at e2
    simp only [Int.toNat_natCast, List.length_singleton] at this e2
    rw [e2] at this
    simp [execOp, hF.ev hx, hF.ev hy, this])
  rw [List.take_of_length_le (by simp)] at this
  simpa using this
theorem MK.makeF (T : TypeId) {ty e : TypeId} {k k' : IntKind} {i j : Int} {m : Nat} (hu : P.underlying ty = some (.slice e)) (hz : Zero P e [.slice none 0 0]) (hs : Size P e 1) (hb : Bytes P e 24)
    (hx : opv us x = some (.int k i)) (hy : opv us y = some (.int k' j)) (hi : i = (m : Int)) (hj : j = (m : Int)) (hl : m ≤ 1099511627776) :
    MK P n us H (.makeSlice ty x y) t (fun q c => .slice q (List.replicate m ([] : List Term)).length c) (fun q c => ownFs e T q c nilVs (List.replicate m [])) := by
  subst hi
  subst hj
  obtain ⟨i, z', hq, hiz, hzc, his, hib⟩ := info_of hz hs hb
  have hfl : (List.replicate m [Value.slice none 0 0]).flatten = List.replicate m (Value.slice none 0 0) := by simp
  intro B H0 L d p af a w hF hH
  have hrun := run_make (P := P) w ty e i z' hu hq hiz k k' m m (by omega) (by omega) (by rw [hib]; omega) (by omega)
  rw [hzc, his] at hrun
  have e2 := made_flat [Value.slice none 0 0] m
  rw [hfl] at e2
  simp only [Int.toNat_natCast, List.length_singleton] at hrun e2
  rw [e2] at hrun
  refine ⟨some ⟨w.heap.size, 0, none⟩, m, w.alloc (.cells (List.replicate m (Value.slice none 0 0)).toArray e), ?_, ?_⟩
  · simp [execOp, hF.ev hx, hF.ev hy, hrun]
  · have h1 := own_full (e := e) m 1 (hH.alloc (.cells (List.replicate m (Value.slice none 0 0)).toArray e)) (by simp) (by simp only [maxLen]; omega)
    exact h1.ownFs0 T
theorem MK.lit0 {ty e : TypeId} {sz : Nat} (hu : P.underlying ty = some (.slice e)) (hs : Size P e sz) : MK P n us H (.buildSlice ty 0 #[]) t (fun q c => .slice q 0 c) (fun q c => own e sz q 0 c []) := by
  intro B H0 L d p af a w hF hH
  refine ⟨some ⟨w.heap.size, 0, none⟩, 0, w.alloc (.cells ([] : List Value).toArray e), ?_, own_of_obj (cs := []) (m := 0) (c := 0) (sz := sz) (hH.alloc _) (by simp) (Nat.le_refl _) (by simp) (by simpa using At.z)⟩
  have h9 : ∀ f : Nat → Value, (Array.range 0).map f = #[] := fun f => Array.ext' (by simp)
  simp [execOp, Instr.buildSlice, run_underlying hu, hs.run, Instr.fill, newRow, h9]
theorem MK.lit0I {ty e : TypeId} (hu : P.underlying ty = some (.slice e)) (hs : Size P e 1) : MK P n us H (.buildSlice ty 0 #[]) t (fun q c => .slice q ([] : List Int).length c) (fun q c => own e 1 q ([] : List Int).length c (intsC [])) := MK.lit0 hu hs
/-- s == nil -/
theorem PR.eqlNil {xt yt e : TypeId} {q : Option Addr} {m c : Nat} (hu : P.underlying xt = some (.slice e)) (hx : opv us x = some (.slice q m c)) (hy : opv us y = some (.slice none 0 0)) : PR P n B H0 us H L (.binOp .eql xt x y yt) t (.bool q.isNone) :=
  fun _ _ _ _ a w hF _ => by simp [execOp, hF.ev hx, hF.ev hy, eqGuard_at_slice, Lib.run_eql_slice_nil w xt e q m c 0 0 hu]
theorem Ints.none_nil {H : HP} {q : Option Addr} {xs : List Int} (h : Ints H q xs) (hq : q.isNone = true) : xs = [] := by
  cases xs with
  | nil => rfl
  | cons x xs =>
    have := h.sm (i := 0) (by simp)
    cases q <;> simp at hq this
theorem Terms.none_nil {H : HP} {q : Option Addr} {xs : List Term} (h : Terms H q xs) (hq : q.isNone = true) : xs = [] := by
  cases xs with
  | nil => rfl
  | cons x xs =>
    have := h.sm (i := 0) (by simp)
    cases q <;> simp at hq this
/-- T{..} -/
theorem PR.build1 {ty : TypeId} {i : Nat} {u : Value} {cs : List Value} (hx : opv us x = some u) (hb : ∀ w, (Instr.build ty #[(i, u)]).run P w = .ok (.agg cs.toArray) w) : PR P n B H0 us H L (.build ty #[(i, x)]) t (.agg cs.toArray) :=
  fun _ _ _ _ a w hF _ => by simp [execOp, hF.ev hx, hb w]
theorem PR.build2 {ty : TypeId} {i j : Nat} {u v : Value} {cs : List Value} (hx : opv us x = some u) (hy : opv us y = some v) (hb : ∀ w, (Instr.build ty #[(i, u), (j, v)]).run P w = .ok (.agg cs.toArray) w) : PR P n B H0 us H L (.build ty #[(i, x), (j, y)]) t (.agg cs.toArray) :=
  fun _ _ _ _ a w hF _ => by simp [execOp, hF.ev hx, hF.ev hy, hb w]
/-- append(s, v): one number more -/
theorem J.appendI {ty e : TypeId} {q : Option Addr} {c g : Nat} {xs : List Int} {v : Int} (hu : P.underlying ty = some (.slice e)) (hz : Zero P e [.int .i64 0]) (hs : Size P e 1) (hb : Bytes P e 8)
    (hx : opv us x = some (.slice q xs.length c)) (hy : opv us y = some (.slice (some ⟨g, 0, none⟩) 1 1)) (hm : xs.length + 1 ≤ 1099511627776)
    {M : List SA} (hat : At M (own e 1 q xs.length c (intsC xs)) (own e 1 q xs.length c (intsC xs)) M) {L' : Option Addr → Nat → List SA} (hat' : ∀ q' c', At M (own e 1 q xs.length c (intsC xs)) (own e 1 q' (xs ++ [v]).length c' (intsC (xs ++ [v]))) (L' q' c')) (hd : Nat.blt d n = true)
    (hk : ∀ q' c', J P ops Q n B H0 rest ((d, .slice q' (xs ++ [v]).length c') :: us) H (L' q' c')) :
    J P ops Q n B H0 (⟨some d, .call { callee := .builtin .append, args := #[x, y], argTypes := #[ty, ty] }, t, p, af, none⟩ :: rest) us H (obj g (.cells [Value.int .i64 v].toArray e (0, 0)) :: M) := by
  have el : (xs ++ [v]).length = xs.length + 1 := by simp
  have ec : intsC (xs ++ [v]) = intsC xs ++ [Value.int .i64 v] := by simp [intsC]
  rw [el, ec] at hat'
  rw [el] at hk
  exact J.append (z := [.int .i64 0]) (ds := [.int .i64 v]) hu hz hs hb rfl hx hy rfl (by simp [Value.oneCell']) (by omega) (by simp only [maxLen]; omega) hat hat' hd hk
/-- append(s, ys...) -/
theorem J.appendHI {ty e : TypeId} {q qt : Option Addr} {c ct : Nat} {xs ys : List Int} (hu : P.underlying ty = some (.slice e)) (hz : Zero P e [.int .i64 0]) (hs : Size P e 1) (hb : Bytes P e 8)
    (hx : opv us x = some (.slice q xs.length c)) (hy : opv us y = some (.slice qt ys.length ct)) (hys : Ints H qt ys) (hm : xs.length + ys.length ≤ 1099511627776)
    (hat : At L (own e 1 q xs.length c (intsC xs)) (own e 1 q xs.length c (intsC xs)) L) {L' : Option Addr → Nat → List SA} (hat' : ∀ q' c', At L (own e 1 q xs.length c (intsC xs)) (own e 1 q' (xs ++ ys).length c' (intsC (xs ++ ys))) (L' q' c')) (hd : Nat.blt d n = true)
    (hk : ∀ q' c', J P ops Q n B H0 rest ((d, .slice q' (xs ++ ys).length c') :: us) H (L' q' c')) :
    J P ops Q n B H0 (⟨some d, .call { callee := .builtin .append, args := #[x, y], argTypes := #[ty, ty] }, t, p, af, none⟩ :: rest) us H L := by
  have el : (xs ++ ys).length = xs.length + ys.length := by simp
  have ec : intsC (xs ++ ys) = intsC xs ++ intsC ys := by simp [intsC]
  rw [el, ec] at hat'
  rw [el] at hk
  exact J.appendH (z := [.int .i64 0]) (ds := intsC ys) hu hz hs hb rfl hx hy (by simp) (fun j v hj => by
    have hl : j < ys.length := by simpa using (List.getElem?_eq_some_iff.1 hj).1
    rw [intsC_get hl] at hj
    cases hj
    exact hys j hl) (intsC_one ys) (by omega) (by simp only [maxLen]; omega) hat hat' hd hk
theorem lit1_run {ty e : TypeId} {v : Value} {z cs : List Value} {a : Act} {w : World} {dd : Option Tmp} (hu : P.underlying ty = some (.slice e)) (hz : Zero P e z) (hs : Size P e z.length) (hz0 : Nat.blt 0 z.length = true) (hzs : Nat.blt z.length 1000 = true) (hx : opv us x = some v) (hv : v.cells = cs.toArray) (hl : cs.length = z.length) (hF : Fr n us a) :
    (execOp a.eval ⟨dd, .buildSlice ty 1 #[(0, x)], t, p, af, none⟩).run P w = .ok (.value (.slice (some ⟨w.heap.size, 0, none⟩) 1 1)) (w.alloc (.cells cs.toArray e)) := by
  obtain ⟨z', hr, hc⟩ := hz.run w
  have h1 : 0 < z.length := Nat.le_of_ble_eq_true hz0
  have h2 : z.length < 1000 := Nat.le_of_ble_eq_true hzs
  have hne : z.length ≠ 0 := by omega
  have hm : (Array.range z.length).map (fun i => z.toArray[i % z.length]!) = z.toArray := by
    have := made_flat z 1
    simpa [madeCells] using this
  have hfold : ∀ (cs acc : List Value) (k : Nat), (cs.zipIdx k).foldl (fun (acc : Array Value) (q : Value × Nat) => acc.setIfInBounds q.2 q.1) acc.toArray = (acc.take k ++ cs ++ acc.drop (k + cs.length)).toArray ∨ acc.length < k + cs.length := by
    intro cs
    induction cs with
    | nil => intro acc k; left; simp
    | cons c cs ih =>
      intro acc k
      rcases Nat.lt_or_ge acc.length (k + (c :: cs).length) with h | h
      · right; exact h
      · left
        rcases ih (acc.set k c) (k + 1) with h' | h'
        · simp only [List.zipIdx_cons, List.foldl_cons, List.setIfInBounds_toArray, h']
          have := Go.list_seg_step acc k c cs (by simpa using h)
          congr 1
        · simp at h h'; omega
  have hf := hfold cs z 0
  rcases hf with hf | hf
  · have hf' : (cs.zipIdx 0).foldl (fun (acc : Array Value) (q : Value × Nat) => acc.setIfInBounds q.2 q.1) z.toArray = cs.toArray := by
      rw [hf]
      simp [hl]
    have : ¬ (z.length > 16777216) := by omega
    simp [execOp, Instr.buildSlice, run_underlying hu, hs.run, Instr.fill, newRow, hF.ev hx, hv, hl, hne, this, hr, hc, hm]
    have hm' : (Array.range z.length).map (fun i => z[i % z.length]?.getD default) = z.toArray := by simpa using hm
    rw [hm', hf']
  · omega

/-- the list of one that append is given -/
theorem MK.lit1 {ty e : TypeId} {v : Value} {z cs : List Value} (hu : P.underlying ty = some (.slice e)) (hz : Zero P e z) (hs : Size P e z.length) (hz0 : Nat.blt 0 z.length = true) (hzs : Nat.blt z.length 1000 = true) (hx : opv us x = some v) (hv : v.cells = cs.toArray) (hl : cs.length = z.length) :
    MK P n us H (.buildSlice ty 1 #[(0, x)]) t (fun q c => .slice q 1 c) (fun q c => own e z.length q 1 c cs) := by
  intro B H0 L d p af a w hF hH
  refine ⟨some ⟨w.heap.size, 0, none⟩, 1, w.alloc (.cells cs.toArray e), ?_, own_full 1 z.length (hH.alloc _) (by omega) (by decide)⟩
  exact lit1_run hu hz hs hz0 hzs hx hv hl hF
theorem MK.lit0T {ty e : TypeId} (hu : P.underlying ty = some (.slice e)) (hs : Size P e 9) : MK P n us H (.buildSlice ty 0 #[]) t (fun q c => .slice q ([] : List Term).length c) (fun q c => own e 9 q ([] : List Term).length c (tsC [])) := MK.lit0 hu hs
theorem MK.lit1I {ty e : TypeId} {v : Int} (hu : P.underlying ty = some (.slice e)) (hz : Zero P e [.int .i64 0]) (hs : Size P e 1) (hx : opv us x = some (.int .i64 v)) : MK P n us H (.buildSlice ty 1 #[(0, x)]) t (fun q c => .slice q [v].length c) (fun q c => own e 1 q [v].length c (intsC [v])) :=
  MK.lit1 (z := [.int .i64 0]) hu hz hs rfl rfl hx rfl rfl
theorem MK.lit1T {ty e : TypeId} {tr : Term} (hu : P.underlying ty = some (.slice e)) (hz : Zero P e (default : Term).c) (hs : Size P e 9) (hw : tr.wf) (hx : opv us x = some (.agg tr.c.toArray)) : MK P n us H (.buildSlice ty 1 #[(0, x)]) t (fun q c => .slice q [tr].length c) (fun q c => own e 9 q [tr].length c (tsC [tr])) := by
  have h := MK.lit1 (P := P) (n := n) (H := H) (t := t) (z := (default : Term).c) hu hz hs rfl rfl hx rfl (Term.c_length hw)
  have e1 : tsC [tr] = tr.c := by simp [tsC]
  rw [e1]
  exact h
/-- append(s, t...), t owned too -/
theorem J.appendO {ty e : TypeId} {q qt : Option Addr} {m c k ct bytes : Nat} {cells ds z : List Value} {L1 : List SA} (hu : P.underlying ty = some (.slice e)) (hz : Zero P e z) (hs : Size P e z.length) (hb : Bytes P e bytes) (hz0 : Nat.blt 0 z.length = true)
    (hx : opv us x = some (.slice q m c)) (hy : opv us y = some (.slice qt k ct)) (h1 : ∀ u ∈ ds, u.oneCell' = true) (hm : (m + k) * bytes ≤ 140737488355328) (hm' : m + k ≤ maxLen)
    (hr : Rm L (own e z.length qt k ct ds) L1) (hat : At L1 (own e z.length q m c cells) (own e z.length q m c cells) L1) {L' : Option Addr → Nat → List SA} (hat' : ∀ q' c', At L1 (own e z.length q m c cells) (own e z.length q' (m + k) c' (cells ++ ds)) (L' q' c')) (hd : Nat.blt d n = true)
    (hk : ∀ q' c', J P ops Q n B H0 rest ((d, .slice q' (m + k) c') :: us) H (own e z.length qt k ct ds :: L' q' c')) :
    J P ops Q n B H0 (⟨some d, .call { callee := .builtin .append, args := #[x, y], argTypes := #[ty, ty] }, t, p, af, none⟩ :: rest) us H L := fun a w hF hH =>
  hH.lend hr fun H' hle hA hB hH' => J.appendH (H := H') (B := B) (H0 := H0) hu hz hs hb hz0 hx hy hA.1 (own_reads hA) h1 hm hm' hat hat' hd (fun q' c' a' w' hF' h' => hk q' c' a' w' hF' (hB _ _ h')) a w hF hH'
theorem J.appendOI {ty e : TypeId} {q qt : Option Addr} {c ct : Nat} {xs ys : List Int} {L1 : List SA} (hu : P.underlying ty = some (.slice e)) (hz : Zero P e [.int .i64 0]) (hs : Size P e 1) (hb : Bytes P e 8)
    (hx : opv us x = some (.slice q xs.length c)) (hy : opv us y = some (.slice qt ys.length ct)) (hm : xs.length + ys.length ≤ 1099511627776)
    (hr : Rm L (own e 1 qt ys.length ct (intsC ys)) L1) (hat : At L1 (own e 1 q xs.length c (intsC xs)) (own e 1 q xs.length c (intsC xs)) L1) {L' : Option Addr → Nat → List SA} (hat' : ∀ q' c', At L1 (own e 1 q xs.length c (intsC xs)) (own e 1 q' (xs ++ ys).length c' (intsC (xs ++ ys))) (L' q' c')) (hd : Nat.blt d n = true)
    (hk : ∀ q' c', J P ops Q n B H0 rest ((d, .slice q' (xs ++ ys).length c') :: us) H (own e 1 qt ys.length ct (intsC ys) :: L' q' c')) :
    J P ops Q n B H0 (⟨some d, .call { callee := .builtin .append, args := #[x, y], argTypes := #[ty, ty] }, t, p, af, none⟩ :: rest) us H L := by
  have el : (xs ++ ys).length = xs.length + ys.length := by simp
  have ec : intsC (xs ++ ys) = intsC xs ++ intsC ys := by simp [intsC]
  rw [el, ec] at hat'
  rw [el] at hk
  exact J.appendO (z := [.int .i64 0]) (ds := intsC ys) hu hz hs hb rfl hx hy (intsC_one ys) (by omega) (by simp only [maxLen]; omega) hr hat hat' hd hk
theorem J.appendOT {ty e : TypeId} {q qt : Option Addr} {c ct : Nat} {xs ys : List Term} {L1 : List SA} (hu : P.underlying ty = some (.slice e)) (hz : Zero P e (default : Term).c) (hs : Size P e 9) (hb : Bytes P e 16)
    (hx : opv us x = some (.slice q xs.length c)) (hy : opv us y = some (.slice qt ys.length ct)) (hm : xs.length + ys.length ≤ 1099511627776)
    (hr : Rm L (own e 9 qt ys.length ct (tsC ys)) L1) (hat : At L1 (own e 9 q xs.length c (tsC xs)) (own e 9 q xs.length c (tsC xs)) L1) {L' : Option Addr → Nat → List SA} (hat' : ∀ q' c', At L1 (own e 9 q xs.length c (tsC xs)) (own e 9 q' (xs ++ ys).length c' (tsC (xs ++ ys))) (L' q' c')) (hd : Nat.blt d n = true)
    (hk : ∀ q' c', J P ops Q n B H0 rest ((d, .slice q' (xs ++ ys).length c') :: us) H (own e 9 qt ys.length ct (tsC ys) :: L' q' c')) :
    J P ops Q n B H0 (⟨some d, .call { callee := .builtin .append, args := #[x, y], argTypes := #[ty, ty] }, t, p, af, none⟩ :: rest) us H L := by
  have el : (xs ++ ys).length = xs.length + ys.length := by simp
  rw [el] at hk
  have hat2 : ∀ q' c', At L1 (own e 9 q xs.length c (tsC xs)) (own e 9 q' (xs.length + ys.length) c' (tsC xs ++ tsC ys)) (L' q' c') := fun q' c' => by
    have := hat' q' c'
    rwa [el, tsC_append] at this
  exact J.appendO (z := (default : Term).c) (ds := tsC ys) hu hz hs hb rfl hx hy (tsC_one ys) (by omega) (by simp only [maxLen]; omega) hr hat hat2 hd hk
/-- append(s, ts...) -/
theorem J.appendHT {ty e : TypeId} {q qt : Option Addr} {c ct : Nat} {xs ys : List Term} (hu : P.underlying ty = some (.slice e)) (hz : Zero P e (default : Term).c) (hs : Size P e 9) (hb : Bytes P e 16)
    (hx : opv us x = some (.slice q xs.length c)) (hy : opv us y = some (.slice qt ys.length ct)) (hys : Terms H qt ys) (hm : xs.length + ys.length ≤ 1099511627776)
    (hat : At L (own e 9 q xs.length c (tsC xs)) (own e 9 q xs.length c (tsC xs)) L) {L' : Option Addr → Nat → List SA} (hat' : ∀ q' c', At L (own e 9 q xs.length c (tsC xs)) (own e 9 q' (xs ++ ys).length c' (tsC (xs ++ ys))) (L' q' c')) (hd : Nat.blt d n = true)
    (hk : ∀ q' c', J P ops Q n B H0 rest ((d, .slice q' (xs ++ ys).length c') :: us) H (L' q' c')) :
    J P ops Q n B H0 (⟨some d, .call { callee := .builtin .append, args := #[x, y], argTypes := #[ty, ty] }, t, p, af, none⟩ :: rest) us H L := by
  have el : (xs ++ ys).length = xs.length + ys.length := by simp
  rw [el] at hk
  have hat2 : ∀ q' c', At L (own e 9 q xs.length c (tsC xs)) (own e 9 q' (xs.length + ys.length) c' (tsC xs ++ tsC ys)) (L' q' c') := fun q' c' => by
    have := hat' q' c'
    rwa [el, tsC_append] at this
  exact J.appendH (z := (default : Term).c) (ds := tsC ys) hu hz hs hb rfl hx hy (tsC_length hys.wfs) (fun j v hj => by
    have hl : j < ys.length * 9 := by rw [← tsC_length hys.wfs]; exact (List.getElem?_eq_some_iff.1 hj).1
    have hc := Term.c_length (hys.wf (j / 9) (by omega))
    have h2 := tsC_get hys.wfs (i := j / 9) (by omega) (j := j % 9) (v := (tm ys (j / 9)).c[j % 9]'(by omega)) (by simp)
    rw [show j / 9 * 9 + j % 9 = j by omega, hj] at h2
    have h3 := hys.cell (j / 9) (by omega) (j % 9) v (by rw [List.getElem?_eq_getElem (by omega)]; exact h2.symm)
    rwa [show j / 9 * 9 + j % 9 = j by omega] at h3) (tsC_one ys) (by omega) (by simp only [maxLen]; omega) hat hat2 hd hk
end
end Go.Proofs.YtbjhllmcnfncdaaDoor.G
