/- The rules for calls and returns, and for what gets fixed. No condition. -/
import Derived.Test.YtbjhllmcnfncdaaDoorGMem
namespace Go.Proofs.YtbjhllmcnfncdaaDoor.G
open Go Go.RowKit

/-- an assertion is taken out of a list -/
inductive Rm : List SA → SA → List SA → Prop
  | z {A : SA} {L : List SA} : Rm (A :: L) A L
  | s {X A : SA} {L L' : List SA} : Rm L A L' → Rm (X :: L) A (X :: L')
theorem Rm.split {L L' : List SA} {A : SA} (h : Rm L A L') : ∃ L1 L2, L = L1 ++ A :: L2 ∧ L' = L1 ++ L2 := by
  induction h with
  | z => exact ⟨[], _, rfl, rfl⟩
  | @s X _ _ _ _ ih =>
    obtain ⟨L1, L2, e1, e2⟩ := ih
    exact ⟨X :: L1, L2, by rw [e1]; rfl, by rw [e2]; rfl⟩

section
variable {P : Program} {ops : Array Oper} {Q : Exit → Act → World → Prop} {n : Nat} {B : World} {H0 H : HP} {rest : List Oper} {us : List (Nat × Value)} {L L' : List SA} {t : TypeId} {p : String} {af : Array Edge} {d : Nat} {x y : Operand} {R : Act → World → Prop}

theorem Hp.front {A : SA} {w : World} (h : Hp B H0 H L w) (hr : Rm L A L') : Hp B H0 H (A :: L') w := by
  obtain ⟨L1, L2, rfl, rfl⟩ := hr.split
  refine ⟨h.below, h.agree, h.old, h.le, fun X hX => h.objs X (by simp at hX ⊢; rcases hX with h | h | h <;> simp [h]), ?_⟩
  have hs := h.sep
  rw [List.pairwise_append] at hs
  obtain ⟨s1, s2, s3⟩ := hs
  rw [List.pairwise_cons] at s2
  rw [List.pairwise_cons, List.pairwise_append]
  refine ⟨fun X hX b hb hX' => ?_, s1, s2.2, fun X hX Y hY => s3 X hX Y (by simp [hY])⟩
  rcases List.mem_append.1 hX with hX | hX
  · exact s3 X hX A (by simp) b hX' hb
  · exact s2.1 X hX b hb hX'
theorem EJ.front {A : SA} (hr : Rm L A L') (k : EJ R n B H0 us H (A :: L')) : EJ R n B H0 us H L := fun a w hF hH => k a w hF (hH.front hr)
theorem EJ.drop {A : SA} (hr : Rm L A L') (k : EJ R n B H0 us H L') : EJ R n B H0 us H L := fun a w hF hH => k a w hF (hH.front hr).tail
theorem EJ.freeze {g : Nat} {o : Obj} (hr : Rm L (obj g o) L') (k : ∀ H', Le H H' → H' g = some o → EJ R n B H0 us H' L') : EJ R n B H0 us H L := fun a w hF hH => by
  obtain ⟨h1, h2⟩ := (hH.front hr).freeze
  exact k _ h2 (by simp) a w hF h1
/-- A row of cells gets fixed. -/
theorem EJ.freezeRow {g : Nat} {cs : List Value} {e : TypeId} {fr : Nat × Nat} (hr : Rm L (obj g (.cells cs.toArray e fr)) L') (k : ∀ H', Le H H' → (∀ j v, cs[j]? = some v → cellO H' (some ⟨g, 0, none⟩) j = some v) → EJ R n B H0 us H' L') : EJ R n B H0 us H L :=
  EJ.freeze hr fun H' hle hg => k H' hle fun j v hj => by simp [cellO, cellH, add_at, hg, hj]
theorem Hp.freezeOwn {e : TypeId} {sz m c : Nat} {q : Option Addr} {cells : List Value} {w : World} (h : Hp B H0 H (own e sz q m c cells :: L) w) :
    ∃ H', Hp B H0 H' L w ∧ Le H H' ∧ ∀ j v, cells[j]? = some v → cellO H' q j = some v := by
  obtain ⟨⟨h1, h2⟩, _⟩ := h.objs _ (List.mem_cons_self)
  rcases h2 with ⟨rfl, rfl, rfl⟩ | ⟨g, cur, rfl, hg, h3, h4, h5, h6⟩
  · have : cells = [] := List.eq_nil_of_length_eq_zero (by simpa using h1)
    exact ⟨H, h.tail, Le.refl _, fun j v hj => by simp [this] at hj⟩
  · have h' := h.reAt (A' := obj g (.cells cur e (0, 0))) (At.z) hg (fun b hb => ⟨_, rfl, (show b = g from hb).symm⟩)
    obtain ⟨a1, a2⟩ := h'.freeze
    refine ⟨_, a1, a2, fun j v hj => ?_⟩
    have hcj : cur[j]? = some v := by
      rw [← h6, List.getElem?_take] at hj
      split at hj
      · simpa using hj
      · simp at hj
    simp [cellO, cellH, add_at, hcj]
theorem EJ.freezeOwn {e : TypeId} {sz m c : Nat} {q : Option Addr} {cells : List Value} (hr : Rm L (own e sz q m c cells) L') (k : ∀ H', Le H H' → (∀ j v, cells[j]? = some v → cellO H' q j = some v) → EJ R n B H0 us H' L') : EJ R n B H0 us H L := fun a w hF hH => by
  obtain ⟨H', h1, h2, h3⟩ := (hH.front hr).freezeOwn
  exact k H' h2 h3 a w hF h1
theorem EJ.sub {us' : List (Nat × Value)} (hs : subB us' us) (k : EJ R n B H0 us' H L) : EJ R n B H0 us H L := fun a w hF hH => k a w (hF.sub hs) hH
theorem EJ.own0 (e : TypeId) (sz : Nat) (hk : EJ R n B H0 us H (own e sz none 0 0 [] :: L)) : EJ R n B H0 us H L :=
  fun a w hF hH => hk a w hF (hH.new (w' := w) ⟨rfl, rfl, rfl, Nat.le_refl _, fun _ _ _ => rfl⟩ ⟨by simp, .inl ⟨rfl, rfl, rfl⟩⟩ (fun b hb => by obtain ⟨_, h, _⟩ := hb; cases h))

/-! ### calls -/
/-- Function f has a body of its own. -/
def Fn (P : Program) (f : FuncId) : Prop := ∃ fn, P.funcs[f]? = some fn ∧ (fn.name == "runtime.NumGoroutine") = false ∧ fn.body.isNone = false
theorem Fn.run {f : FuncId} (h : Fn P f) (args : Array Value) (w : World) : (callFunc f args).run P w = .ok (.enter f args) w := by
  obtain ⟨fn, h1, h2, h3⟩ := h
  have h2' : fn.name ≠ "runtime.NumGoroutine" := by simpa using h2
  have h3' : fn.body ≠ none := fun e => by rw [e] at h3; simp at h3
  simp [callFunc, h1, h2', h3']
theorem J.call {f : FuncId} (hfn : Fn P f) {ats : Array TypeId} {xs : List Operand} {vs : List Value} (hx : opvs us xs = some vs) (hd : Nat.blt d n = true)
    (hc : ∀ w, Hp B H0 H L w → Calls P f vs.toArray w fun e w' => ∃ v, e = .returned v ∧ ∀ a', Fr n ((d, v) :: us) a' → wpList P ops Q rest a' w') :
    J P ops Q n B H0 (⟨some d, .call { callee := .value (.func f), args := xs.toArray, argTypes := ats }, t, p, af, none⟩ :: rest) us H L := by
  intro a w hF hH
  refine wpList_plain rfl fun K hK => ?_
  have hrun : (execOp a.eval ⟨some d, .call { callee := .value (.func f), args := xs.toArray, argTypes := ats }, t, p, af, none⟩).run P w = .ok (.enter f vs.toArray) w := by
    have := hF.evs hx
    simp [execOp, resolve, invoke, Deferred.ofValue, Act.eval, this, hfn.run]
  unfold Oper.wp
  rw [hrun, Oper.upon_enter]
  exact (hc w hH).mono fun e w' ⟨v, he, h⟩ => by subst he; exact hK _ _ (h _ (hF.put hd v))

/-! ### returns -/
def Res (P : Program) (us : List (Nat × Value)) (L : List SA) : ResultVar → Value → Prop
  | .tmp k, v => lk us k = some v
  | .cell k ty, v => ∃ g cs e fr, lk us k = some (.pointer (some ⟨g, 0, none⟩)) ∧ At L (obj g (.cells cs e fr)) (obj g (.cells cs e fr)) L ∧ ((Agg P ty cs.size ∧ v = .agg cs) ∨ (Plain P ty ∧ cs[0]? = some v))
theorem Res.tmp {k : Nat} {v : Value} (h : lk us k = some v) : Res P us L (.tmp k) v := h
theorem Res.agg {k ty g : Nat} {cs : List Value} {e : TypeId} {fr : Nat × Nat} (h : lk us k = some (.pointer (some ⟨g, 0, none⟩))) (hat : At L (obj g (.cells cs.toArray e fr)) (obj g (.cells cs.toArray e fr)) L) (ha : Agg P ty cs.length) : Res P us L (.cell k ty) (.agg cs.toArray) :=
  ⟨g, cs.toArray, e, fr, h, hat, .inl ⟨by simpa using ha, rfl⟩⟩
theorem Res.one {k ty g : Nat} {v : Value} {cs : List Value} {e : TypeId} {fr : Nat × Nat} (h : lk us k = some (.pointer (some ⟨g, 0, none⟩))) (hat : At L (obj g (.cells (v :: cs).toArray e fr)) (obj g (.cells (v :: cs).toArray e fr)) L) (ha : Plain P ty) : Res P us L (.cell k ty) v :=
  ⟨g, _, e, fr, h, hat, .inr ⟨ha, by simp⟩⟩
def resOf (tmps : Array Value) : ResultVar → Sem Value
  | .tmp t => pure (tmps.getD t undef)
  | .cell a t => do loadVar t (← asAddr (tmps.getD a undef))
theorem Res.run {a : Act} {w : World} (hF : Fr n us a) (hH : Hp B H0 H L w) {r : ResultVar} {v : Value} (h : Res P us L r v) : (resOf a.tmps r).run P w = .ok v w := by
  cases r with
  | tmp k => simp only [resOf]; rw [hF.get k v h]; rfl
  | cell k ty =>
    obtain ⟨g, cs, e, fr, hk, hat, hv⟩ := h
    have hg : w.heap[g]? = some (.cells cs e fr) := (hH.objs _ hat.mem).1
    have hcell : ∀ j, w.cell? ⟨g, j, none⟩ = cs[j]? := fun j => by simp [World.cell?, hg]
    simp only [resOf]
    rw [hF.get k _ hk]
    rcases hv with ⟨ha, rfl⟩ | ⟨hp, hc⟩
    · have := run_loadVar_agg (q := ⟨g, 0, none⟩) (cs := cs.toList) (w := w) (by simpa using ha) (fun j v hj => by rw [add_at, Nat.zero_add, hcell]; simpa using hj)
      simp [asAddr, this]
    · have := run_loadVar_plain (q := ⟨g, 0, none⟩) hp ((hcell 0).trans hc)
      simp [asAddr, this]
theorem results_eq (fn : Func) (tmps : Array Value) : results fn tmps = (do let vs ← fn.results.mapM (resOf tmps); pure (if h : vs.size = 1 then vs[0] else .tuple vs)) := by
  unfold results
  congr 1
theorem EJ.ret1 {fn : Func} {r1 : ResultVar} {v1 : Value} {S : Ending → World → Prop} (hr : fn.results = #[r1]) (h1 : Res P us L r1 v1) (k : ∀ w, Hp B H0 H L w → S (.returned v1) w) : EJ (bodyPost P fn S .ret) n B H0 us H L := by
  intro a w hF hH
  refine ⟨hF.defers, v1, ?_, k w hH⟩
  have e1 := h1.run hF hH
  rw [results_eq, hr]
  simp [e1]
theorem EJ.ret2 {fn : Func} {r1 r2 : ResultVar} {v1 v2 : Value} {S : Ending → World → Prop} (hr : fn.results = #[r1, r2]) (h1 : Res P us L r1 v1) (h2 : Res P us L r2 v2) (k : ∀ w, Hp B H0 H L w → S (.returned (.tuple #[v1, v2])) w) : EJ (bodyPost P fn S .ret) n B H0 us H L := by
  intro a w hF hH
  refine ⟨hF.defers, .tuple #[v1, v2], ?_, k w hH⟩
  have e1 := h1.run hF hH
  have e2 := h2.run hF hH
  rw [results_eq, hr]
  simp [e1, e2]
theorem EJ.ret3 {fn : Func} {r1 r2 r3 : ResultVar} {v1 v2 v3 : Value} {S : Ending → World → Prop} (hr : fn.results = #[r1, r2, r3]) (h1 : Res P us L r1 v1) (h2 : Res P us L r2 v2) (h3 : Res P us L r3 v3) (k : ∀ w, Hp B H0 H L w → S (.returned (.tuple #[v1, v2, v3])) w) : EJ (bodyPost P fn S .ret) n B H0 us H L := by
  intro a w hF hH
  refine ⟨hF.defers, .tuple #[v1, v2, v3], ?_, k w hH⟩
  have e1 := h1.run hF hH
  have e2 := h2.run hF hH
  have e3 := h3.run hF hH
  rw [results_eq, hr]
  simp [e1, e2, e3]
theorem EJ.ret0 {fn : Func} {S : Ending → World → Prop} (hr : fn.results = #[]) (k : ∀ w, Hp B H0 H L w → S (.returned (.tuple #[])) w) : EJ (bodyPost P fn S .normal) n B H0 us H L := by
  intro a w hF hH
  refine ⟨hF.defers, .tuple #[], ?_, k w hH⟩
  simp [results, hr]
end
end Go.Proofs.YtbjhllmcnfncdaaDoor.G
