/- Maps: keys and elements of one shape each; the entries up to their order. No condition. -/
import Derived.Test.YtbjhllmcnfncdaaDoorGOpen
import Derived.Maps.Range
namespace Go.Proofs.YtbjhllmcnfncdaaDoor.G
open Go Go.RowKit

/-- keys of type K -/
structure KeyT (P : Program) (K : TypeId) {α : Type} (ek : α → Value) (ok : α → Prop) : Prop where
  inj : ∀ x y, ek x = ek y → x = y
  check : ∀ (w : World) (em : Bool) x, ok x → (Instr.checkKey em 10000 K (ek x)).run P w = .ok () w
  find : ∀ (w : World) x, ok x → ∀ es : List MapEntry, (∀ e ∈ es, ∃ y, ok y ∧ e.key = ek y) →
    ((Instr.findKey K (ek x) es).run P w = .ok none w ∧ ∀ e ∈ es, e.key ≠ ek x) ∨ ∃ j e, (Instr.findKey K (ek x) es).run P w = .ok (some (j, e.val)) w ∧ es[j]? = some e ∧ e.key = ek x
  stays : ∀ (w : World) x, ok x → (Instr.keyThatStays (ek x) (ek x)).run P w = .ok (ek x) w
theorem KeyT.of {P : Program} {K : TypeId} {α : Type} {ek : α → Value} {ok : α → Prop} (Kd : Go.Maps.Keyed P K) (inj : ∀ x y, ek x = ek y → x = y) (h : ∀ x, ok x → ∃ l, keyOf P K (ek x) = some l) : KeyT P K ek ok where
  inj := inj
  check w em x hx := by obtain ⟨l, hl⟩ := h x hx; exact Kd.check w em hl
  find w x hx es he := by
    obtain ⟨l, hl⟩ := h x hx
    exact Kd.find w hl es fun e hm => by
      obtain ⟨y, hy, e1⟩ := he e hm
      obtain ⟨l', hl'⟩ := h y hy
      exact ⟨l', by rw [e1]; exact hl'⟩
  stays w x hx := by obtain ⟨l, hl⟩ := h x hx; exact Kd.stays w hl

def kv (e : MapEntry) : Value × Value := (e.key, e.val)
section
variable {α β : Type} {ek : α → Value} {ev : β → Value} {ok : α → Prop}
def enc2 (ek : α → Value) (ev : β → Value) (x : α × β) : Value × Value := (ek x.1, ev x.2)
/-- a map's entries, in whatever order -/
structure EntOk (ek : α → Value) (ev : β → Value) (ok : α → Prop) (es : Array MapEntry) (clock : Nat) (xs : List (α × β)) : Prop where
  st : MapKept.Stamped es clock
  pm : (es.toList.map kv).Perm (xs.map (enc2 ek ev))
  ok : ∀ x ∈ xs, ok x.1
theorem EntOk.perm {es : Array MapEntry} {clock : Nat} {xs ys : List (α × β)} (h : EntOk ek ev ok es clock xs) (hp : xs.Perm ys) : EntOk ek ev ok es clock ys :=
  ⟨h.st, h.pm.trans (hp.map _), fun x hx => h.ok x (hp.mem_iff.2 hx)⟩
theorem EntOk.mem {es : Array MapEntry} {clock : Nat} {xs : List (α × β)} (h : EntOk ek ev ok es clock xs) {e : MapEntry} (he : e ∈ es.toList) : ∃ x ∈ xs, e.key = ek x.1 ∧ e.val = ev x.2 := by
  have h1 : kv e ∈ xs.map (enc2 ek ev) := h.pm.mem_iff.1 (List.mem_map.2 ⟨e, he, rfl⟩)
  obtain ⟨x, hx, e1⟩ := List.mem_map.1 h1
  simp only [enc2, kv, Prod.mk.injEq] at e1
  exact ⟨x, hx, e1.1.symm, e1.2.symm⟩
theorem EntOk.mem' {es : Array MapEntry} {clock : Nat} {xs : List (α × β)} (h : EntOk ek ev ok es clock xs) {x : α × β} (hx : x ∈ xs) : ∃ e ∈ es.toList, e.key = ek x.1 ∧ e.val = ev x.2 := by
  have h1 : enc2 ek ev x ∈ es.toList.map kv := h.pm.mem_iff.2 (List.mem_map.2 ⟨x, hx, rfl⟩)
  obtain ⟨e, he, e1⟩ := List.mem_map.1 h1
  simp only [enc2, kv, Prod.mk.injEq] at e1
  exact ⟨e, he, e1.1, e1.2⟩
theorem EntOk.keys {es : Array MapEntry} {clock : Nat} {xs : List (α × β)} (h : EntOk ek ev ok es clock xs) : ∀ e ∈ es.toList, ∃ y, ok y ∧ e.key = ek y := fun e he => by
  obtain ⟨x, hx, e1, _⟩ := h.mem he
  exact ⟨x.1, h.ok x hx, e1⟩
theorem EntOk.size {es : Array MapEntry} {clock : Nat} {xs : List (α × β)} (h : EntOk ek ev ok es clock xs) : es.size = xs.length := by
  have := h.pm.length_eq
  simpa using this
theorem EntOk.nodup {es : Array MapEntry} {clock : Nat} {xs : List (α × β)} (h : EntOk ek ev ok es clock xs) : (xs.map (·.1)).Nodup := by
  have h1 := ((MapKept.stamped_iff es clock).1 h.st).2.2
  have h2 : (es.toList.map kv).Pairwise (fun x y => x.1 ≠ y.1) := List.pairwise_map.2 h1
  have h3 := (h.pm.pairwise_iff (fun {x y} (hxy : x.1 ≠ y.1) => hxy.symm)).1 h2
  rw [List.pairwise_map] at h3
  rw [List.Nodup, List.pairwise_map]
  exact h3.imp fun h e => h (congrArg ek e)
theorem EntOk.empty {clock : Nat} : EntOk ek ev ok #[] clock [] := ⟨MapKept.stamped_empty clock, by simp, fun x hx => by simp at hx⟩
theorem MapH.key_mem {P : Program} {K : TypeId} (hK : KeyT P K ek ok) {es : Array MapEntry} {clock : Nat} {xs : List (α × β)} (h : EntOk ek ev ok es clock xs) (w : World) {k : α} (hk : ok k) :
    ((Instr.findKey K (ek k) es.toList).run P w = .ok none w ∧ (∀ e ∈ es.toList, e.key ≠ ek k) ∧ ∀ x ∈ xs, x.1 ≠ k) ∨ ∃ j e b, (Instr.findKey K (ek k) es.toList).run P w = .ok (some (j, e.val)) w ∧ es.toList[j]? = some e ∧ e.key = ek k ∧ e.val = ev b ∧ (k, b) ∈ xs := by
  rcases hK.find w k hk es.toList h.keys with ⟨h1, h2⟩ | ⟨j, e, h1, h2, h3⟩
  · refine .inl ⟨h1, h2, fun x hx e1 => ?_⟩
    obtain ⟨e, he, e2, _⟩ := h.mem' hx
    exact h2 e he (by rw [e2, e1])
  · obtain ⟨x, hx, e1, e2⟩ := h.mem (List.mem_of_getElem? h2)
    have : x.1 = k := hK.inj _ _ (by rw [← e1, h3])
    refine .inr ⟨j, e, x.2, h1, h2, h3, e2, ?_⟩
    rw [← this]
    exact hx
/-- the element at a key -/
def look [DecidableEq α] (xs : List (α × β)) (k : α) : Option β := (xs.find? fun x => decide (x.1 = k)).map (·.2)
theorem look_none [DecidableEq α] {xs : List (α × β)} {k : α} (h : ∀ x ∈ xs, x.1 ≠ k) : look xs k = none := by
  unfold look
  rw [List.find?_eq_none.2 fun x hx => by simpa using h x hx]
  rfl
theorem look_some [DecidableEq α] : ∀ {xs : List (α × β)} {k : α} {b : β}, (xs.map (·.1)).Nodup → (k, b) ∈ xs → look xs k = some b
  | [], _, _, _, h => by simp at h
  | x :: xs, k, b, hn, h => by
    simp only [List.map_cons, List.nodup_cons] at hn
    unfold look
    rw [List.find?_cons]
    by_cases e : x.1 = k
    · rw [decide_eq_true e]
      rcases List.mem_cons.1 h with h | h
      · rw [← h]; rfl
      · exact absurd (List.mem_map.2 ⟨_, h, e.symm⟩) hn.1
    · rw [decide_eq_false e]
      rcases List.mem_cons.1 h with h | h
      · exact absurd (by rw [← h]) e
      · exact look_some hn.2 h
theorem look_perm [DecidableEq α] {xs ys : List (α × β)} (hn : (xs.map (·.1)).Nodup) (hp : xs.Perm ys) (k : α) : look xs k = look ys k := by
  cases h : look ys k with
  | some b =>
    unfold look at h
    obtain ⟨x, hx, rfl⟩ := Option.map_eq_some_iff.1 h
    have h1 := List.find?_some hx
    have h2 := List.mem_of_find?_eq_some hx
    have e : x.1 = k := by simpa using h1
    exact look_some hn (hp.mem_iff.2 (by rw [← e]; exact h2))
  | none =>
    refine look_none fun x hx e => ?_
    unfold look at h
    rw [Option.map_eq_none_iff, List.find?_eq_none] at h
    exact h x (hp.mem_iff.1 hx) (by simpa using e)
/-- a map that doesn't change -/
def MapH (ek : α → Value) (ev : β → Value) (ok : α → Prop) (H : HP) (v : Value) (xs : List (α × β)) : Prop := ∃ b es clock, v = .map (some b) ∧ H b = some (.map es clock) ∧ EntOk ek ev ok es clock xs
theorem MapH.le {H H' : HP} {v : Value} {xs : List (α × β)} (h : MapH ek ev ok H v xs) (hle : Le H H') : MapH ek ev ok H' v xs := by
  obtain ⟨b, es, clock, h1, h2, h3⟩ := h
  exact ⟨b, es, clock, h1, hle _ _ h2, h3⟩
theorem MapH.nodup {H : HP} {v : Value} {xs : List (α × β)} (h : MapH ek ev ok H v xs) : (xs.map (·.1)).Nodup := by
  obtain ⟨_, _, _, _, _, h3⟩ := h
  exact h3.nodup
theorem MapH.perm {H : HP} {v : Value} {xs ys : List (α × β)} (h : MapH ek ev ok H v xs) (hp : xs.Perm ys) : MapH ek ev ok H v ys := by
  obtain ⟨b, es, clock, h1, h2, h3⟩ := h
  exact ⟨b, es, clock, h1, h2, h3.perm hp⟩
/-- a map of the call's own -/
def omap (ek : α → Value) (ev : β → Value) (ok : α → Prop) (b : Nat) (xs : List (α × β)) : SA where
  fp := fun x => x = b
  holds := fun h => ∃ es clock, h b = some (.map es clock) ∧ EntOk ek ev ok es clock xs
  loc := fun h h' hb ⟨es, clock, h1, h2⟩ => ⟨es, clock, by rw [← hb b rfl]; exact h1, h2⟩
theorem omap_H {h : HP} {b : Nat} {xs : List (α × β)} (hh : (omap ek ev ok b xs).holds h) : MapH ek ev ok h (.map (some b)) xs := by
  obtain ⟨es, clock, h1, h2⟩ := hh
  exact ⟨b, es, clock, rfl, h1, h2⟩
/-- m[k] = v -/
def putM [DecidableEq α] (xs : List (α × β)) (k : α) (v : β) : List (α × β) := (k, v) :: xs.filter fun x => decide (x.1 ≠ k)
def delM [DecidableEq α] (xs : List (α × β)) (k : α) : List (α × β) := xs.filter fun x => decide (x.1 ≠ k)
/-- an iterator over a map: the entry it stands at, and what is still to come -/
def itr (ek : α → Value) (ev : β → Value) (b : Nat) (es : Array MapEntry) (clock : Nat) (r : Nat) (last : Option (α × β)) (ls : List (α × β)) : SA where
  fp := fun x => x = r
  holds := fun h => ∃ seen, h r = some (.mapIter (some b) clock seen clock) ∧ ((leftOf es seen).toList.map kv).Perm (ls.map (enc2 ek ev)) ∧ ∀ x, last = some x → ∃ e ∈ es.toList, kv e = enc2 ek ev x ∧ ∃ s0 : Array Nat, seen = s0.push e.born
  loc := fun h h' hb ⟨seen, h1, h2⟩ => ⟨seen, by rw [← hb r rfl]; exact h1, h2⟩
theorem self_erase {γ : Type} : ∀ {l : List γ} {j : Nat} {x : γ}, l[j]? = some x → l.Perm (x :: l.eraseIdx j)
  | [], _, _, h => by simp at h
  | a :: l, 0, x, h => by simp at h; subst h; simp
  | a :: l, j + 1, x, h => by
    simp only [List.eraseIdx_cons_succ]
    exact ((self_erase (by simpa using h)).cons a).trans (List.Perm.swap x a _)
theorem delM_perm [DecidableEq α] : ∀ {xs : List (α × β)} {k : α} {b : β}, (xs.map (·.1)).Nodup → (k, b) ∈ xs → xs.Perm ((k, b) :: delM xs k)
  | [], _, _, _, h => by simp at h
  | x :: xs, k, b, hn, h => by
    simp only [List.map_cons, List.nodup_cons] at hn
    unfold delM
    rw [List.filter_cons]
    by_cases e : x.1 = k
    · have hx : x = (k, b) := by
        rcases List.mem_cons.1 h with h | h
        · exact h.symm
        · exact absurd (List.mem_map.2 ⟨_, h, e.symm⟩) hn.1
      rw [if_neg (by simpa using e), hx]
      refine List.Perm.cons _ ?_
      rw [List.filter_eq_self.2]
      intro y hy
      have : y.1 ≠ k := fun e2 => hn.1 (by rw [e, ← e2]; exact List.mem_map.2 ⟨y, hy, rfl⟩)
      simpa using this
    · rw [if_pos (by simpa using e)]
      rcases List.mem_cons.1 h with h | h
      · exact absurd (by rw [← h]) e
      · exact ((delM_perm hn.2 h).cons x).trans (List.Perm.swap _ _ _)
theorem delM_none [DecidableEq α] {xs : List (α × β)} {k : α} (h : ∀ x ∈ xs, x.1 ≠ k) : delM xs k = xs := by
  unfold delM
  rw [List.filter_eq_self]
  intro x hx
  simpa using h x hx
theorem delM_mem [DecidableEq α] {xs : List (α × β)} {k : α} {x : α × β} (h : x ∈ delM xs k) : x ∈ xs ∧ x.1 ≠ k := by
  unfold delM at h
  obtain ⟨h1, h2⟩ := List.mem_filter.1 h
  exact ⟨h1, by simpa using h2⟩
theorem EntOk.find_perm [DecidableEq α] {es : Array MapEntry} {clock : Nat} {xs : List (α × β)} (h : EntOk ek ev ok es clock xs) {j : Nat} {e : MapEntry} {k : α} {b : β} (h2 : es.toList[j]? = some e) (h3 : e.key = ek k) (h4 : e.val = ev b) (h5 : (k, b) ∈ xs) :
    ((es.toList.eraseIdx j).map kv).Perm ((delM xs k).map (enc2 ek ev)) := by
  have p1 : (es.toList.map kv).Perm (kv e :: (es.toList.eraseIdx j).map kv) := (self_erase h2).map kv
  have p2 : (xs.map (enc2 ek ev)).Perm (enc2 ek ev (k, b) :: (delM xs k).map (enc2 ek ev)) := (delM_perm h.nodup h5).map (enc2 ek ev)
  have e1 : kv e = enc2 ek ev (k, b) := by unfold kv enc2; rw [h3, h4]
  have p3 := (p1.symm.trans h.pm).trans p2
  rw [e1] at p3
  exact (List.perm_cons _).1 p3
end

section
variable {P : Program} {ops : Array Oper} {Q : Exit → Act → World → Prop} {n : Nat} {B : World} {H0 H : HP} {rest : List Oper} {us : List (Nat × Value)} {L L' : List SA} {t : TypeId} {p : String} {af : Array Edge} {d : Nat} {x y z : Operand}
variable {α β : Type} {ek : α → Value} {ev : β → Value} {ok : α → Prop}
/-- the zero value of a type of one cell -/
def ZeroV (P : Program) (e : TypeId) (v : Value) : Prop := ∀ w, (zeroValue e).run P w = .ok v w
theorem look_run [DecidableEq α] {ty K e : TypeId} {w : World} {b : Nat} {es : Array MapEntry} {clock : Nat} {xs : List (α × β)} {k : α} {v0 : Value} (hu : P.underlying ty = some (.map K e)) (hK : KeyT P K ek ok) (hz : ZeroV P e v0) (hb : w.heap[b]? = some (.map es clock)) (he : EntOk ek ev ok es clock xs) (hk : ok k) (c : Bool) :
    (Instr.lookup ty (.map (some b)) (ek k) c).run P w = .ok (if c then .tuple #[(look xs k).elim v0 ev, .bool (look xs k).isSome] else (look xs k).elim v0 ev) w := by
  rcases MapH.key_mem hK he w hk with ⟨h1, h2, h3⟩ | ⟨j, e0, v, h1, h2, h3, h4, h5⟩
  · rw [look_none h3]
    simp [Instr.lookup, run_underlying hu, MapKept.run_getObj_map hb, hK.check w _ k hk, h1, hz w, Result.andThen]
  · rw [look_some he.nodup h5]
    simp [Instr.lookup, run_underlying hu, MapKept.run_getObj_map hb, hK.check w _ k hk, h1, Result.andThen, h4]
/-- m[k], m as it is fixed -/
theorem PR.lookH [DecidableEq α] {ty K e : TypeId} {xs : List (α × β)} {k : α} {v0 mv : Value} (hu : P.underlying ty = some (.map K e)) (hK : KeyT P K ek ok) (hz : ZeroV P e v0) (hx : opv us x = some mv) (hm : MapH ek ev ok H mv xs) (hy : opv us y = some (ek k)) (hk : ok k) :
    PR P n B H0 us H L (.lookup ty x y false) t ((look xs k).elim v0 ev) :=
  fun _ _ _ _ a w hF hH => by
    obtain ⟨b, es, clock, rfl, h2, h3⟩ := hm
    have := look_run (w := w) hu hK hz (hH.agree b _ h2) h3 hk false
    simp [execOp, hF.ev hx, hF.ev hy, this]
theorem PR.lookH2 [DecidableEq α] {ty K e : TypeId} {xs : List (α × β)} {k : α} {v0 mv : Value} (hu : P.underlying ty = some (.map K e)) (hK : KeyT P K ek ok) (hz : ZeroV P e v0) (hx : opv us x = some mv) (hm : MapH ek ev ok H mv xs) (hy : opv us y = some (ek k)) (hk : ok k) :
    PR P n B H0 us H L (.lookup ty x y true) t (.tuple #[(look xs k).elim v0 ev, .bool (look xs k).isSome]) :=
  fun _ _ _ _ a w hF hH => by
    obtain ⟨b, es, clock, rfl, h2, h3⟩ := hm
    have := look_run (w := w) hu hK hz (hH.agree b _ h2) h3 hk true
    simp [execOp, hF.ev hx, hF.ev hy, this]
/-- m[k], m the call's own -/
theorem PR.lookO [DecidableEq α] {ty K e : TypeId} {b : Nat} {xs : List (α × β)} {k : α} {v0 : Value} (hu : P.underlying ty = some (.map K e)) (hK : KeyT P K ek ok) (hz : ZeroV P e v0) (hx : opv us x = some (.map (some b))) (hat : At L (omap ek ev ok b xs) (omap ek ev ok b xs) L) (hy : opv us y = some (ek k)) (hk : ok k) :
    PR P n B H0 us H L (.lookup ty x y false) t ((look xs k).elim v0 ev) :=
  fun c' w' d' b' a w hF hH => PR.lookH (H := hp w) (L := []) (B := w) (H0 := hp w) hu hK hz hx (omap_H (hH.objs _ hat.mem).1) hy hk c' w' d' b' a w hF (Hp.start fun _ _ h => h)
theorem PR.lookO2 [DecidableEq α] {ty K e : TypeId} {b : Nat} {xs : List (α × β)} {k : α} {v0 : Value} (hu : P.underlying ty = some (.map K e)) (hK : KeyT P K ek ok) (hz : ZeroV P e v0) (hx : opv us x = some (.map (some b))) (hat : At L (omap ek ev ok b xs) (omap ek ev ok b xs) L) (hy : opv us y = some (ek k)) (hk : ok k) :
    PR P n B H0 us H L (.lookup ty x y true) t (.tuple #[(look xs k).elim v0 ev, .bool (look xs k).isSome]) :=
  fun c' w' d' b' a w hF hH => PR.lookH2 (H := hp w) (L := []) (B := w) (H0 := hp w) hu hK hz hx (omap_H (hH.objs _ hat.mem).1) hy hk c' w' d' b' a w hF (Hp.start fun _ _ h => h)
/-- len(m) -/
theorem PR.lenH {ty K e : TypeId} {xs : List (α × β)} {mv : Value} {r : Int} (hu : P.underlying ty = some (.map K e)) (hx : opv us x = some mv) (hm : MapH ek ev ok H mv xs) (hr : (xs.length : Int) = r) :
    PR P n B H0 us H L (.call { callee := .builtin .len, args := #[x], argTypes := #[ty] }) t (.int .i64 r) :=
  fun _ _ _ _ a w hF hH => by
    subst hr
    obtain ⟨b, es, clock, rfl, h2, h3⟩ := hm
    have hb : w.heap[b]? = some (.map es clock) := hH.agree b _ h2
    simp [execOp, resolve, invoke, builtin, Builtin.len_, hF.ev hx, run_underlying hu, MapKept.run_getObj_map hb, goInt, h3.size, Result.andThen]
theorem PR.lenO {ty K e : TypeId} {b : Nat} {xs : List (α × β)} {r : Int} (hu : P.underlying ty = some (.map K e)) (hx : opv us x = some (.map (some b))) (hat : At L (omap ek ev ok b xs) (omap ek ev ok b xs) L) (hr : (xs.length : Int) = r) :
    PR P n B H0 us H L (.call { callee := .builtin .len, args := #[x], argTypes := #[ty] }) t (.int .i64 r) :=
  fun c' w' d' b' a w hF hH => PR.lenH (H := hp w) (L := []) (B := w) (H0 := hp w) hu hx (omap_H (hH.objs _ hat.mem).1) hr c' w' d' b' a w hF (Hp.start fun _ _ h => h)
/-- map[K]V{} -/
theorem J.makeMap (ek : α → Value) (ev : β → Value) (ok : α → Prop) {ty : TypeId} (hd : Nat.blt d n = true) (hk : ∀ b, J P ops Q n B H0 rest ((d, .map (some b)) :: us) H (omap ek ev ok b [] :: L)) :
    J P ops Q n B H0 (⟨some d, .makeMap ty none, t, p, af, none⟩ :: rest) us H L := by
  refine J.val hd fun a w hF hH => ⟨.map (some w.heap.size), w.alloc (.map #[] 0), ?_, fun a' hF' => hk _ a' _ hF' ?_⟩
  · simp [execOp, run_makeMap]
  · exact hH.new (chg_alloc w _) ⟨#[], 0, heap_alloc_new w _, EntOk.empty⟩ (fun b hb => by rw [show b = w.heap.size from hb]; simp)
theorem setBlock_hp {w : World} {b : Nat} {o o' : Obj} (hb : hp w b = some o) : hp (ChangeMaps.setBlock w b o') b = some o' ∧ (∀ b', b' ≠ b → hp (ChangeMaps.setBlock w b o') b' = hp w b') ∧ (ChangeMaps.setBlock w b o').heap.size = w.heap.size := by
  have := MapKept.heap_set (o' := o') (show w.heap[b]? = some o from hb)
  exact ⟨this.1, this.2, by simp [ChangeMaps.setBlock]⟩
theorem Hp.setB {b : Nat} {o o' : Obj} {A A' : SA} {w : World} (hH : Hp B H0 H L w) (hat : At L A A' L') (hA : ∀ x, A.fp x ↔ x = b) (hA' : ∀ x, A'.fp x ↔ x = b) (hb : hp w b = some o) (hh : ∀ h : HP, h b = some o' → A'.holds h) : Hp B H0 H L' (ChangeMaps.setBlock w b o') := by
  obtain ⟨h1, h2, h3⟩ := setBlock_hp (o' := o') hb
  refine hH.upd hat ⟨rfl, rfl, rfl, by rw [h3]; exact Nat.le_refl _, fun x _ hx => h2 x fun e => hx ((hA x).2 e)⟩ (hh _ h1) fun x hx => ?_
  have e := (hA' x).1 hx
  subst e
  exact ⟨.inl ((hA x).2 rfl), by rw [h3]; exact hp_lt hb⟩
theorem update_run [DecidableEq α] {ty K e : TypeId} {w : World} {b : Nat} {es : Array MapEntry} {clock : Nat} {xs : List (α × β)} {k : α} {v : β} (hu : P.underlying ty = some (.map K e)) (hK : KeyT P K ek ok) (hb : w.heap[b]? = some (.map es clock)) (he : EntOk ek ev ok es clock xs) (hk : ok k) :
    ∃ es' clock', (Instr.mapUpdate ty (.map (some b)) (ek k) (ev v)).run P w = .ok () (ChangeMaps.setBlock w b (.map es' clock')) ∧ EntOk ek ev ok es' clock' (putM xs k v) := by
  have hok : ∀ x ∈ putM xs k v, ok x.1 := fun x hx => by
    rcases List.mem_cons.1 hx with rfl | hx
    · exact hk
    · exact he.ok x (delM_mem hx).1
  rcases MapH.key_mem hK he w hk with ⟨h1, h2, h3⟩ | ⟨j, e0, v', h1, h2, h3, h4, h5⟩
  · refine ⟨es.push ⟨ek k, ev v, clock⟩, clock + 1, ?_, MapKept.stamped_push he.st h2, ?_, hok⟩
    · simp [Instr.mapUpdate, run_underlying hu, MapKept.run_getObj_map hb, hK.check w false k hk, h1, MapKept.run_setObj_map _ hb, Result.andThen, ChangeMaps.setBlock]
    · have e1 : delM xs k = xs := delM_none h3
      unfold putM
      unfold delM at e1
      rw [e1, Array.toList_push, List.map_append]
      exact (List.perm_append_singleton _ _).trans (he.pm.cons _)
  · have hj : es[j]? = some e0 := by simpa using h2
    have hjl : j < es.toList.length := (List.getElem?_eq_some_iff.1 h2).1
    have hkeyf : ∀ e', es[j]? = some e' → ({ e' with key := ek k, val := ev v } : MapEntry).key = e'.key := fun e' he' => by rw [hj] at he'; cases he'; exact h3.symm
    refine ⟨es.modify j (fun e' => { e' with key := ek k, val := ev v }), clock, ?_, MapKept.stamped_modify he.st _ _ (fun _ _ => rfl) (fun e' _ he' => hkeyf e' he'), ?_, hok⟩
    · simp [Instr.mapUpdate, run_underlying hu, MapKept.run_getObj_map hb, hK.check w false k hk, h1, hj, h3, hK.stays w k hk, MapKept.run_setObj_map _ hb, Result.andThen, ChangeMaps.setBlock]
    · rw [Array.toList_modify, ChangeMaps.modify_eq_set _ _ _ _ h2]
      have p1 := (ChangeMaps.set_perm es.toList j hjl { e0 with key := ek k, val := ev v }).map kv
      refine p1.trans ?_
      show (kv { e0 with key := ek k, val := ev v } :: (es.toList.eraseIdx j).map kv).Perm (enc2 ek ev (k, v) :: (delM xs k).map (enc2 ek ev))
      exact (he.find_perm h2 h3 h4 h5).cons _
/-- m[k] = v -/
theorem J.mapUpdate [DecidableEq α] {ty K e : TypeId} {b : Nat} {xs : List (α × β)} {k : α} {v : β} (hu : P.underlying ty = some (.map K e)) (hK : KeyT P K ek ok) (hx : opv us x = some (.map (some b))) (hy : opv us y = some (ek k)) (hz : opv us z = some (ev v)) (hk : ok k)
    (hat : At L (omap ek ev ok b xs) (omap ek ev ok b (putM xs k v)) L') (kk : J P ops Q n B H0 rest us H L') : J P ops Q n B H0 (⟨none, .mapUpdate ty x y z, t, p, af, none⟩ :: rest) us H L := by
  refine J.unit fun a w hF hH => ?_
  obtain ⟨es, clock, hb, he⟩ := (hH.objs _ hat.mem).1
  obtain ⟨es', clock', hr, he'⟩ := update_run (v := v) hu hK hb he hk
  refine ⟨_, ?_, kk a _ hF (hH.setB hat (fun _ => Iff.rfl) (fun _ => Iff.rfl) hb fun h hh => ⟨es', clock', hh, he'⟩)⟩
  simp [execOp, hF.ev hx, hF.ev hy, hF.ev hz, hr, Result.andThen]
theorem J.insert [DecidableEq α] {ty K e : TypeId} {b : Nat} {xs : List (α × β)} {k : α} {v : β} (hu : P.underlying ty = some (.map K e)) (hK : KeyT P K ek ok) (hx : opv us x = some (.map (some b))) (hy : opv us y = some (ek k)) (hz : opv us z = some (ev v)) (hk : ok k)
    (hat : At L (omap ek ev ok b xs) (omap ek ev ok b (putM xs k v)) L') (kk : J P ops Q n B H0 rest us H L') : J P ops Q n B H0 (⟨none, .insert ty x y z, t, p, af, none⟩ :: rest) us H L := by
  refine J.unit fun a w hF hH => ?_
  obtain ⟨es, clock, hb, he⟩ := (hH.objs _ hat.mem).1
  obtain ⟨es', clock', hr, he'⟩ := update_run (v := v) hu hK hb he hk
  refine ⟨_, ?_, kk a _ hF (hH.setB hat (fun _ => Iff.rfl) (fun _ => Iff.rfl) hb fun h hh => ⟨es', clock', hh, he'⟩)⟩
  simp [execOp, hF.ev hx, hF.ev hy, hF.ev hz, hr, Result.andThen]
/-- delete(m, k) -/
theorem J.delete [DecidableEq α] {ty tk K e : TypeId} {b : Nat} {xs : List (α × β)} {k : α} (hu : P.underlying ty = some (.map K e)) (hK : KeyT P K ek ok) (hx : opv us x = some (.map (some b))) (hy : opv us y = some (ek k)) (hk : ok k)
    (hat : At L (omap ek ev ok b xs) (omap ek ev ok b (delM xs k)) L') (kk : J P ops Q n B H0 rest us H L') : J P ops Q n B H0 (⟨none, .call { callee := .builtin .delete, args := #[x, y], argTypes := #[ty, tk] }, t, p, af, none⟩ :: rest) us H L := by
  refine J.unitV fun a w hF hH => ?_
  obtain ⟨es, clock, hb, he⟩ := (hH.objs _ hat.mem).1
  have hok : ∀ x ∈ delM xs k, ok x.1 := fun x hx => he.ok x (delM_mem hx).1
  have hb' : w.heap[b]? = some (.map es clock) := hb
  rcases MapH.key_mem hK he w hk with ⟨h1, h2, h3⟩ | ⟨j, e0, v', h1, h2, h3, h4, h5⟩
  · refine ⟨.tuple #[], _, ?_, kk a _ hF (hH.setB hat (fun _ => Iff.rfl) (fun _ => Iff.rfl) hb fun h hh => ⟨es, clock, hh, ?_⟩)⟩
    · simp [execOp, resolve, invoke, builtin, hF.ev hx, hF.ev hy, Builtin.delete_, run_underlying hu, MapKept.run_getObj_map hb', hK.check w _ k hk, h1, MapKept.run_setObj_map _ hb', Result.andThen, ChangeMaps.setBlock]
    · rw [delM_none h3]; exact he
  · have hjs : j < es.size := by simpa using (List.getElem?_eq_some_iff.1 h2).1
    have hsub : (es.eraseIdxIfInBounds j).toList = es.toList.eraseIdx j := by
      unfold Array.eraseIdxIfInBounds
      rw [dif_pos hjs]
      simp
    refine ⟨.tuple #[], _, ?_, kk a _ hF (hH.setB hat (fun _ => Iff.rfl) (fun _ => Iff.rfl) hb fun h hh => ⟨es.eraseIdxIfInBounds j, clock, hh, MapKept.stamped_erase he.st j, ?_, hok⟩)⟩
    · simp [execOp, resolve, invoke, builtin, hF.ev hx, hF.ev hy, Builtin.delete_, run_underlying hu, MapKept.run_getObj_map hb', hK.check w _ k hk, h1, MapKept.run_setObj_map _ hb', Result.andThen, ChangeMaps.setBlock]
    · rw [hsub]
      exact he.find_perm h2 h3 h4 h5
/-- range m -/
theorem J.range {ty K e : TypeId} {b : Nat} {es : Array MapEntry} {clock : Nat} {xs : List (α × β)} (hu : P.underlying ty = some (.map K e)) (hx : opv us x = some (.map (some b))) (hb : H b = some (.map es clock)) (he : EntOk ek ev ok es clock xs) (hd : Nat.blt d n = true)
    (kk : ∀ r, J P ops Q n B H0 rest ((d, .pointer (some ⟨r, 0, none⟩)) :: us) H (itr ek ev b es clock r none xs :: L)) : J P ops Q n B H0 (⟨some d, .range ty x, t, p, af, none⟩ :: rest) us H L := by
  refine J.val hd fun a w hF hH => ⟨_, _, ?_, fun a' hF' => kk w.heap.size a' _ hF' (hH.new (chg_alloc w (.mapIter (some b) clock #[] clock)) ⟨#[], heap_alloc_new w _, ?_, fun x hx => by cases hx⟩ (fun x hx => by rw [show x = w.heap.size from hx]; simp))⟩
  · simp [execOp, hF.ev hx, run_range_map w ty K e b es clock hu (hH.agree b _ hb)]
  · have : leftOf es #[] = es := by unfold leftOf; simp
    rw [this]
    exact he.pm
theorem left_push {es : Array MapEntry} {seen : Array Nat} (hn : (es.toList.map (·.born)).Nodup) {e : MapEntry} (he : e ∈ (leftOf es seen).toList) : (leftOf es seen).toList.Perm (e :: (leftOf es (seen.push e.born)).toList) := by
  have h1 : (leftOf es (seen.push e.born)).toList = (leftOf es seen).toList.filter fun x => !(x.born == e.born) := by
    unfold leftOf
    rw [Array.toList_filter, Array.toList_filter, List.filter_filter]
    congr 1
    funext x
    rw [contains_push]
    cases seen.contains x.born <;> cases (x.born == e.born) <;> rfl
  rw [h1]
  have hsub : ((leftOf es seen).toList.map (·.born)).Nodup := by
    unfold leftOf
    rw [Array.toList_filter]
    exact hn.sublist (List.filter_sublist.map _)
  generalize (leftOf es seen).toList = l at he hsub
  induction l with
  | nil => simp at he
  | cons a l ih =>
    simp only [List.map_cons, List.nodup_cons] at hsub
    rw [List.filter_cons]
    by_cases e1 : a.born = e.born
    · have hae : a = e := by
        rcases List.mem_cons.1 he with h | h
        · exact h.symm
        · exact absurd (List.mem_map.2 ⟨e, h, e1.symm⟩) hsub.1
      rw [if_neg (by simpa using e1), hae]
      refine List.Perm.cons _ ?_
      rw [List.filter_eq_self.2]
      intro y hy
      have : y.born ≠ e.born := fun e2 => hsub.1 (by rw [e1, ← e2]; exact List.mem_map.2 ⟨y, hy, rfl⟩)
      simpa using this
    · rw [if_pos (by simpa using e1)]
      rcases List.mem_cons.1 he with h | h
      · exact absurd (by rw [h]) e1
      · exact ((ih h hsub.2).cons a).trans (List.Perm.swap _ _ _)
/-- the loop's step -/
theorem J.next {b r : Nat} {es : Array MapEntry} {clock : Nat} {xs ls : List (α × β)} {last : Option (α × β)} (hx : opv us x = some (.pointer (some ⟨r, 0, none⟩))) (hb : H b = some (.map es clock)) (he : EntOk ek ev ok es clock xs) {L' : Option (α × β) → List (α × β) → List SA}
    (hat : ∀ la ls', At L (itr ek ev b es clock r last ls) (itr ek ev b es clock r la ls') (L' la ls')) (hd : Nat.blt d n = true)
    (h0 : ls = [] → J P ops Q n B H0 rest ((d, .tuple #[.bool false]) :: us) H L)
    (h1 : ∀ (u : α × β) (l1 l2 : List (α × β)), ls = l1 ++ u :: l2 → J P ops Q n B H0 rest ((d, .tuple #[.bool true, ek u.1, ev u.2]) :: us) H (L' (some u) (l1 ++ l2))) :
    J P ops Q n B H0 (⟨some d, .next x false, t, p, af, none⟩ :: rest) us H L := by
  refine J.val hd fun a w hF hH => ?_
  obtain ⟨seen, hr, hpm, hlast⟩ := (hH.objs _ (hat none []).mem).1
  have hst := (MapKept.stamped_iff es clock).1 he.st
  have hbw : w.heap[b]? = some (.map es clock) := hH.agree b _ hb
  rcases run_next_at (P := P) w t r b clock clock seen es clock hr hbw hst.1 (Nat.le_refl _) with ⟨hs0, hrun⟩ | ⟨e, hem, w1, hw1, hrun⟩
  · refine ⟨_, w, by simp [execOp, hF.ev hx, hrun, Result.andThen], fun a' hF' => h0 ?_ a' w hF' hH⟩
    have : (leftOf es seen).toList = [] := by rw [Array.toList_eq_nil_iff]; exact Array.eq_empty_of_size_eq_zero hs0
    rw [this] at hpm
    have := hpm.length_eq
    simp at this
    exact List.eq_nil_of_length_eq_zero this.symm
  · have h2 : kv e ∈ ls.map (enc2 ek ev) := hpm.mem_iff.1 (List.mem_map.2 ⟨e, hem, rfl⟩)
    obtain ⟨u, hu, hue⟩ := List.mem_map.1 h2
    obtain ⟨l1, l2, hl⟩ := List.append_of_mem hu
    have hke : e.key = ek u.1 := by have := congrArg Prod.fst hue; exact this.symm
    have hve : e.val = ev u.2 := by have := congrArg Prod.snd hue; exact this.symm
    have hp1 : (leftOf es (seen.push e.born)).toList.map kv |>.Perm ((l1 ++ l2).map (enc2 ek ev)) := by
      have p1 := (left_push hst.2.1 hem).map kv
      have p2 : (ls.map (enc2 ek ev)).Perm (enc2 ek ev u :: (l1 ++ l2).map (enc2 ek ev)) := by
        rw [hl]
        exact (List.perm_middle).map _
      have p3 := (p1.symm.trans hpm).trans p2
      rw [hue] at p3
      exact (List.perm_cons _).1 p3
    have hH1 : Hp B H0 H L w1 := by
      rcases hw1 with rfl | rfl
      · exact hH
      · exact hH.chg0 (w' := w.drew) ⟨rfl, rfl, rfl, Nat.le_refl _, fun _ _ _ => rfl⟩
    have hr1 : hp w1 r = some (.mapIter (some b) clock seen clock) := by rcases hw1 with rfl | rfl <;> exact hr
    refine ⟨.tuple #[.bool true, e.key, e.val], _, by simp [execOp, hF.ev hx, hrun, Result.andThen]; rfl, fun a' hF' => ?_⟩
    rw [hke, hve] at hF'
    exact h1 u l1 l2 hl a' _ hF' (hH1.setB (hat (some u) (l1 ++ l2)) (fun _ => Iff.rfl) (fun _ => Iff.rfl) hr1 fun h hh => ⟨_, hh, hp1, fun x hx => by
      cases hx
      exact ⟨e, (mem_left hem).1, hue.symm, seen, rfl⟩⟩)
/-- the entry that has come -/
theorem PR.entry {b r : Nat} {es : Array MapEntry} {clock : Nat} {xs ls : List (α × β)} {u : α × β} (hx : opv us x = some (.pointer (some ⟨r, 0, none⟩))) (hb : H b = some (.map es clock)) (he : EntOk ek ev ok es clock xs)
    (hat : At L (itr ek ev b es clock r (some u) ls) (itr ek ev b es clock r (some u) ls) L) : PR P n B H0 us H L (.entry x) t (.tuple #[ek u.1, ev u.2]) :=
  fun _ _ _ _ a w hF hH => by
    obtain ⟨seen, hr, _, hlast⟩ := (hH.objs _ hat.mem).1
    obtain ⟨e, hem, hke, s0, rfl⟩ := hlast u rfl
    have hst := (MapKept.stamped_iff es clock).1 he.st
    have hbw : w.heap[b]? = some (.map es clock) := hH.agree b _ hb
    have h1 : e.key = ek u.1 := congrArg Prod.fst hke
    have h2 : e.val = ev u.2 := congrArg Prod.snd hke
    have := run_entry_at (P := P) w r b clock s0 es clock e hr hbw hem hst.2.1
    rw [h1, h2] at this
    simp [execOp, hF.ev hx, this]
end
end Go.Proofs.YtbjhllmcnfncdaaDoor.G
