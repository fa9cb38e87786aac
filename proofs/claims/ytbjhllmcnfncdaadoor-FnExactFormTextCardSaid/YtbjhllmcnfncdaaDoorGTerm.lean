/- Terms and forms: how they are made, read and written. No condition. -/
import Derived.Test.YtbjhllmcnfncdaaDoorGPar
namespace Go.Proofs.YtbjhllmcnfncdaaDoor.G
open Go Go.RowKit

instance : DecidableEq Term := fun a b => decidable_of_iff (a.mono = b.mono ∧ a.fac = b.fac) (by cases a; cases b; simp)
def tsC (ts : List Term) : List Value := ts.flatMap Term.c
/-- all well formed -/
def Wfs (ts : List Term) : Prop := ∀ t, t ∈ ts → t.wf
theorem Wfs.wfs {ts : List Term} (h : Wfs ts) : Wfs ts := h
theorem Terms.wfs {H : HP} {q : Option Addr} {ts : List Term} (h : Terms H q ts) : Wfs ts := fun t ht => by
  obtain ⟨i, hi, rfl⟩ := List.mem_iff_getElem.1 ht
  have := h.wf i hi
  simpa [tm, List.getD_eq_getElem?_getD, List.getElem?_eq_getElem hi] using this
theorem Wfs.at {ts : List Term} (h : Wfs ts) {i : Nat} (hi : i < ts.length) : (tm ts i).wf := by
  have : tm ts i = ts[i] := by simp [tm, List.getD_eq_getElem?_getD, List.getElem?_eq_getElem hi]
  rw [this]
  exact h _ (List.getElem_mem hi)
theorem zero_wf : (default : Term).wf := ⟨⟨rfl, fun i => by
  show 0 ≤ ([0, 0, 0, 0, 0, 0, 0, 0] : List Int).getD i 0 ∧ ([0, 0, 0, 0, 0, 0, 0, 0] : List Int).getD i 0 ≤ 255
  rcases Nat.lt_or_ge i 8 with h | h
  · have : i = 0 ∨ i = 1 ∨ i = 2 ∨ i = 3 ∨ i = 4 ∨ i = 5 ∨ i = 6 ∨ i = 7 := by omega
    rcases this with rfl | rfl | rfl | rfl | rfl | rfl | rfl | rfl <;> decide
  · rw [List.getD_eq_getElem?_getD, List.getElem?_eq_none (by simpa using h)]
    decide⟩, by decide⟩
theorem Term.wf.of {m : List Int} {f : Int} (hm : Mono m) (hf : -9223372036854775808 ≤ f ∧ f ≤ 9223372036854775807) : (⟨m, f⟩ : Term).wf := ⟨hm, hf⟩
theorem Term.eq_of {a b : Term} (h1 : a.mono = b.mono) (h2 : a.fac = b.fac) : a = b := by cases a; cases b; simp_all
theorem tsC_cons (t : Term) (ts : List Term) : tsC (t :: ts) = t.c ++ tsC ts := rfl
theorem tsC_append (a b : List Term) : tsC (a ++ b) = tsC a ++ tsC b := by simp [tsC]
theorem tsC_length : ∀ {ts : List Term}, Wfs ts → (tsC ts).length = ts.length * 9
  | [], _ => rfl
  | t :: ts, h => by
    rw [tsC_cons, List.length_append, tsC_length (fun x hx => h x (by simp [hx])), Term.c_length (h t (by simp))]
    simp; omega
theorem tsC_one (ts : List Term) : ∀ u ∈ tsC ts, u.oneCell' = true := by
  intro u hu
  obtain ⟨t, _, ht⟩ := List.mem_flatMap.1 hu
  exact Term.c_one t u ht
theorem tsC_get : ∀ {ts : List Term}, Wfs ts → ∀ {i : Nat}, i < ts.length → ∀ {j : Nat} {v : Value}, (tm ts i).c[j]? = some v → (tsC ts)[i * 9 + j]? = some v
  | [], _, i, hi, _, _, _ => by simp at hi
  | t :: ts, h, 0, _, j, v, hj => by
    have hj' : t.c[j]? = some v := hj
    rw [tsC_cons, Nat.zero_mul, Nat.zero_add, List.getElem?_append_left (List.getElem?_eq_some_iff.1 hj').1]
    exact hj'
  | t :: ts, h, i + 1, hi, j, v, hj => by
    have hl := Term.c_length (h t (by simp))
    rw [tsC_cons, List.getElem?_append_right (by omega), hl, show (i + 1) * 9 + j - 9 = i * 9 + j by omega]
    exact tsC_get (fun x hx => h x (by simp [hx])) (by simpa using hi) hj
theorem Terms.of {H : HP} {q : Option Addr} {ts : List Term} (hw : Wfs ts) (h : ∀ j v, (tsC ts)[j]? = some v → cellO H q j = some v) : Terms H q ts :=
  ⟨fun i hi => hw.at hi, fun i hi j v hj => h _ _ (tsC_get hw hi hj)⟩
theorem Terms.nil {H : HP} {q : Option Addr} : Terms H q [] := ⟨fun i hi => by simp at hi, fun i hi => by simp at hi⟩
theorem tsC_put : ∀ {ts : List Term}, Wfs ts → ∀ {k : Nat}, k < ts.length → ∀ t : Term, t.wf → (tsC ts).take (k * 9) ++ t.c ++ (tsC ts).drop (k * 9 + 9) = tsC (ts.set k t)
  | [], _, k, hk, _, _ => by simp at hk
  | a :: ts, h, 0, _, t, ht => by
    have hl := Term.c_length (h a (by simp))
    rw [tsC_cons, Nat.zero_mul, List.take_zero, List.nil_append, Nat.zero_add, List.set_cons_zero, tsC_cons, ← hl, List.drop_left]
  | a :: ts, h, k + 1, hk, t, ht => by
    have hl := Term.c_length (h a (by simp))
    rw [tsC_cons, List.set_cons_succ, tsC_cons, show (k + 1) * 9 = a.c.length + k * 9 by omega, List.take_length_add_append, Nat.add_assoc, List.drop_length_add_append, List.append_assoc, List.append_assoc, ← List.append_assoc (List.take _ _), tsC_put (fun x hx => h x (by simp [hx])) (by simpa using hk) t ht]
theorem Wfs.set {ts : List Term} (h : Wfs ts) (k : Nat) {t : Term} (ht : t.wf) : Wfs (ts.set k t) := fun x hx => by
  rcases List.mem_or_eq_of_mem_set hx with h1 | h1
  · exact h x h1
  · exact h1 ▸ ht
theorem fillT_step {ts : List Term} {k : Nat} (h : k < ts.length) : (ts.take k ++ List.replicate (ts.length - k) default).set k (tm ts k) = ts.take (k + 1) ++ List.replicate (ts.length - (k + 1)) default := by
  have e : ts.length - k = (ts.length - (k + 1)) + 1 := by omega
  have ht : (ts.take k).length = k := by simp; omega
  rw [e, List.replicate_succ, List.set_append, if_neg (by omega), ht, Nat.sub_self, List.set_cons_zero, tm, List.getD_eq_getElem?_getD, List.getElem?_eq_getElem h, List.take_succ_eq_append_getElem h, List.append_assoc]
  rfl
theorem fillT_end (ts : List Term) : ts.take ts.length ++ List.replicate (ts.length - ts.length) default = ts := by simp
theorem fillT_wf {ts : List Term} (h : Wfs ts) (k m : Nat) : Wfs (ts.take k ++ List.replicate m default) := fun x hx => by
  rcases List.mem_append.1 hx with h1 | h1
  · exact h x (List.mem_of_mem_take h1)
  · obtain ⟨_, rfl⟩ := List.mem_replicate.1 h1
    exact zero_wf
theorem tsC_zero (m : Nat) : (List.replicate m (default : Term).c).flatten = tsC (List.replicate m default) := by
  induction m with
  | zero => rfl
  | succ m ih => rw [List.replicate_succ, List.replicate_succ, tsC_cons, List.flatten_cons, ih]

theorem list8_ex : ∀ {m : List Int}, m.length = 8 → ∃ a0 a1 a2 a3 a4 a5 a6 a7, m = [a0, a1, a2, a3, a4, a5, a6, a7]
  | [a0, a1, a2, a3, a4, a5, a6, a7], _ => ⟨a0, a1, a2, a3, a4, a5, a6, a7, rfl⟩
theorem terms_eq_of {xs ys : List Term} (hl : (xs.length : Int) = ys.length) (h : ∀ j, j < xs.length → tm xs j = tm ys j) : xs = ys := by
  apply List.ext_getElem (by omega)
  intro j h1 h2
  have := h j h1
  rwa [tm, tm, List.getD_eq_getElem?_getD, List.getD_eq_getElem?_getD, List.getElem?_eq_getElem h1, List.getElem?_eq_getElem h2] at this

section
variable {P : Program} {ops : Array Oper} {Q : Exit → Act → World → Prop} {n : Nat} {B : World} {H0 H : HP} {rest : List Oper} {us : List (Nat × Value)} {L L' : List SA} {t : TypeId} {p : String} {af : Array Edge} {d : Nat} {x y : Operand}
/-- make([]Term, m) -/
theorem J.makeT {ty e : TypeId} {k k' : IntKind} {i j : Int} {m : Nat} (hu : P.underlying ty = some (.slice e)) (hz : Zero P e (default : Term).c) (hs : Size P e 9) (hb : Bytes P e 16)
    (hx : opv us x = some (.int k i)) (hy : opv us y = some (.int k' j)) (hi : i = (m : Int)) (hj : j = (m : Int)) (hl : m ≤ 1099511627776) (hd : Nat.blt d n = true)
    (hk : ∀ g, J P ops Q n B H0 rest ((d, .slice (some ⟨g, 0, none⟩) m m) :: us) H (obj g (.cells (tsC (List.replicate m default)).toArray e (0, 0)) :: L)) :
    J P ops Q n B H0 (⟨some d, .makeSlice ty x y, t, p, af, none⟩ :: rest) us H L := by
  refine J.make hu hz hs hb hx hy hi hj (Nat.le_refl _) (by omega) (by omega) hd fun g => ?_
  rw [tsC_zero]
  exact hk g
/-- out[k] = t -/
theorem J.storeT {ty e : TypeId} {g k : Nat} {ts : List Term} {tr : Term} (hx : opv us x = some (.pointer (some ⟨g, k * 9, none⟩))) (hy : opv us y = some (.agg tr.c.toArray)) (hs : Size P ty 9) (hl : k < ts.length) (hw : Wfs ts) (ht : tr.wf)
    (hat : At L (obj g (.cells (tsC ts).toArray e (0, 0))) (obj g (.cells (tsC (ts.set k tr)).toArray e (0, 0))) L')
    (hk : J P ops Q n B H0 rest us H L') : J P ops Q n B H0 (⟨none, .store ty x y, t, p, af, none⟩ :: rest) us H L := by
  have h9 := Term.c_length ht
  refine J.stores (e := e) (cs := tsC ts) (vs := tr.c) hx hy rfl (Term.c_one tr) (by rw [h9]; exact hs) (by rw [tsC_length hw, h9]; omega) ?_ hk
  rw [h9, tsC_put hw hl tr ht]
  exact hat
/-- a term's monomial, out of a block that holds the term -/
theorem PR.ldMono {ty e : TypeId} {g : Nat} {tr : Term} (hx : opv us x = some (.pointer (some ⟨g, 0, none⟩))) (hat : At L (obj g (.cells tr.c.toArray e (0, 0))) (obj g (.cells tr.c.toArray e (0, 0))) L) (hw : tr.wf) (ha : Agg P ty 8) :
    PR P n B H0 us H L (.load ty x) t (.agg (bytesC tr.mono).toArray) := by
  refine PR.loadAgg (e := e) (cs := tr.c) (bytesC tr.mono) hx hat (fun j v hj => ?_) (by rw [bytesC_length, hw.mono.len]; exact ha)
  rw [Nat.zero_add]
  simp only [Term.c]
  rw [List.getElem?_append_left (List.getElem?_eq_some_iff.1 hj).1]
  exact hj
theorem PR.ldFac {ty e : TypeId} {g : Nat} {tr : Term} (hx : opv us x = some (.pointer (some ⟨g, 8, none⟩))) (hat : At L (obj g (.cells tr.c.toArray e (0, 0))) (obj g (.cells tr.c.toArray e (0, 0))) L) (hw : tr.wf) (ha : Plain P ty) :
    PR P n B H0 us H L (.load ty x) t (.int .i64 tr.fac) := PR.load hx hat (Term.c_fac hw) ha
theorem PR.ldTerm {ty e : TypeId} {g : Nat} {tr : Term} (hx : opv us x = some (.pointer (some ⟨g, 0, none⟩))) (hat : At L (obj g (.cells tr.c.toArray e (0, 0))) (obj g (.cells tr.c.toArray e (0, 0))) L) (hw : tr.wf) (ha : Agg P ty 9) :
    PR P n B H0 us H L (.load ty x) t (.agg tr.c.toArray) := PR.loadAll hx hat (by rw [Term.c_length hw]; exact ha)
theorem PR.ldByte {ty e : TypeId} {g k : Nat} {tr : Term} (hx : opv us x = some (.pointer (some ⟨g, k, none⟩))) (hat : At L (obj g (.cells tr.c.toArray e (0, 0))) (obj g (.cells tr.c.toArray e (0, 0))) L) (hw : tr.wf) (hk : k < 8) (ha : Plain P ty) :
    PR P n B H0 us H L (.load ty x) t (.int .u8 (tr.mono.getD k 0)) := by
  refine PR.load hx hat ?_ ha
  have := hw.mono.len
  simp only [Term.c]
  rw [List.getElem?_append_left (by simp; omega)]
  exact bytesC_get (by omega)
theorem J.stMono {ty e : TypeId} {g : Nat} {tr : Term} {m : List Int} (hx : opv us x = some (.pointer (some ⟨g, 0, none⟩))) (hy : opv us y = some (.agg (bytesC m).toArray)) (hs : Size P ty 8) (hw : tr.wf) (hm : Mono m)
    (hat : At L (obj g (.cells tr.c.toArray e (0, 0))) (obj g (.cells ((⟨m, tr.fac⟩ : Term).c).toArray e (0, 0))) L')
    (hk : J P ops Q n B H0 rest us H L') : J P ops Q n B H0 (⟨none, .store ty x y, t, p, af, none⟩ :: rest) us H L := by
  have h9 := Term.c_length hw
  have h8 : (bytesC m).length = 8 := by rw [bytesC_length, hm.len]
  refine J.stores (e := e) (cs := tr.c) (vs := bytesC m) hx hy rfl (bytesC_one m) (by rw [h8]; exact hs) (by omega) ?_ hk
  have h8' : (bytesC tr.mono).length = 8 := by rw [bytesC_length, hw.mono.len]
  have e1 : (tr.c.take 0 ++ bytesC m ++ tr.c.drop (0 + (bytesC m).length)) = (⟨m, tr.fac⟩ : Term).c := by
    rw [h8, List.take_zero, List.nil_append, Nat.zero_add]
    simp only [Term.c]
    rw [← h8', List.drop_left]
  rw [e1]
  exact hat
theorem J.stFac {ty e : TypeId} {g : Nat} {tr : Term} {v : Int} (hx : opv us x = some (.pointer (some ⟨g, 8, none⟩))) (hy : opv us y = some (.int .i64 v)) (hs : Size P ty 1) (hw : tr.wf)
    (hat : At L (obj g (.cells tr.c.toArray e (0, 0))) (obj g (.cells ((⟨tr.mono, v⟩ : Term).c).toArray e (0, 0))) L')
    (hk : J P ops Q n B H0 rest us H L') : J P ops Q n B H0 (⟨none, .store ty x y, t, p, af, none⟩ :: rest) us H L := by
  have h9 := Term.c_length hw
  refine J.store (e := e) (cs := tr.c) hx hy rfl rfl hs (by omega) ?_ hk
  have h8' : (bytesC tr.mono).length = 8 := by rw [bytesC_length, hw.mono.len]
  have e1 : tr.c.set 8 (.int .i64 v) = (⟨tr.mono, v⟩ : Term).c := by
    simp only [Term.c]
    rw [List.set_append, if_neg (by omega), h8']
    rfl
  rw [e1]
  exact hat
theorem J.stTerm {ty e : TypeId} {g : Nat} {tr tr' : Term} (hx : opv us x = some (.pointer (some ⟨g, 0, none⟩))) (hy : opv us y = some (.agg tr'.c.toArray)) (hs : Size P ty 9) (hw : tr.wf) (hw' : tr'.wf)
    (hat : At L (obj g (.cells tr.c.toArray e (0, 0))) (obj g (.cells tr'.c.toArray e (0, 0))) L')
    (hk : J P ops Q n B H0 rest us H L') : J P ops Q n B H0 (⟨none, .store ty x y, t, p, af, none⟩ :: rest) us H L :=
  J.storeAll (cs := tr.c) (vs := tr'.c) hx hy (Term.c_one tr') (by rw [Term.c_length hw']; exact hs) (by rw [Term.c_length hw, Term.c_length hw']) hat hk
end
end Go.Proofs.YtbjhllmcnfncdaaDoor.G
