/- Rows that are owned are lent to a call that reads them, and come back; what the laws write into results. No condition. -/
import Derived.Test.YtbjhllmcnfncdaaDoorGTerm
namespace Go.Proofs.YtbjhllmcnfncdaaDoor.G
open Go Go.RowKit

/-- what H' says of A's blocks can be given back -/
def Lent (B : World) (H0 H : HP) (A : SA) (H' : HP) : Prop := ∀ w L, Hp B H0 H' L w → Hp B H0 H (A :: L) w
section
variable {P : Program} {ops : Array Oper} {Q : Exit → Act → World → Prop} {n : Nat} {B : World} {H0 H : HP} {rest : List Oper} {us : List (Nat × Value)} {L L' : List SA} {t : TypeId} {p : String} {af : Array Edge} {d : Nat} {x y : Operand}
open Classical in
theorem Hp.lend {A : SA} {w : World} {C : Prop} (h : Hp B H0 H L w) (hr : Rm L A L') (k : ∀ H', Le H H' → A.holds H' → Lent B H0 H A H' → Hp B H0 H' L' w → C) : C := by
  have hf := h.front hr
  obtain ⟨hA, hfp⟩ := hf.objs A (List.mem_cons_self)
  have hs := (List.pairwise_cons.1 hf.sep)
  let H' : HP := fun b => if A.fp b then hp w b else H b
  have e1 : ∀ b, A.fp b → H' b = hp w b := fun b hb => if_pos hb
  have e2 : ∀ b, ¬ A.fp b → H' b = H b := fun b hb => if_neg hb
  have hle : Le H H' := fun b o ho => by
    by_cases hb : A.fp b
    · rw [(hfp b hb).2.2] at ho; cases ho
    · rw [e2 b hb]; exact ho
  refine k H' hle (A.loc _ _ (fun b hb => (e1 b hb).symm) hA) (fun w1 L1 h1 => ?_) ?_
  · have hsome : ∀ b, A.fp b → ∃ o, H' b = some o := fun b hb => by
      have := (hfp b hb).2.1
      rw [e1 b hb]
      exact ⟨w.heap[b], by simp [hp, this]⟩
    refine ⟨h1.below, fun b o ho => h1.agree b o (hle b o ho), h.old, h.le, fun X hX => ?_, List.pairwise_cons.2 ⟨fun X hX b hb hXb => ?_, h1.sep⟩⟩
    · rcases List.mem_cons.1 hX with rfl | hX
      · refine ⟨X.loc _ _ (fun b hb => ?_) (X.loc _ _ (fun b hb => (e1 b hb).symm) hA), fun b hb => ⟨(hfp b hb).1, ?_, (hfp b hb).2.2⟩⟩
        · obtain ⟨o, ho⟩ := hsome b hb
          rw [ho, h1.agree b o ho]
        · obtain ⟨o, ho⟩ := hsome b hb
          exact hp_lt (h1.agree b o ho)
      · obtain ⟨g1, g2⟩ := h1.objs X hX
        refine ⟨g1, fun b hb => ⟨(g2 b hb).1, (g2 b hb).2.1, ?_⟩⟩
        cases ho : H b with
        | none => rfl
        | some o =>
          have := hle b o ho
          rw [(g2 b hb).2.2] at this
          cases this
    · obtain ⟨o, ho⟩ := hsome b hb
      rw [((h1.objs X hX).2 b hXb).2.2] at ho
      cases ho
  · refine ⟨hf.below, fun b o ho => ?_, fun b hb => ?_, h.le.trans hle, fun X hX => ?_, hs.2⟩
    · by_cases hb : A.fp b
      · rw [← e1 b hb]; exact ho
      · rw [e2 b hb] at ho; exact h.agree b o ho
    · by_cases hb' : A.fp b
      · have := (hfp b hb').1; omega
      · rw [e2 b hb']; exact h.old b hb
    · obtain ⟨g1, g2⟩ := hf.objs X (List.mem_cons_of_mem _ hX)
      refine ⟨g1, fun b hb => ⟨(g2 b hb).1, (g2 b hb).2.1, ?_⟩⟩
      rw [e2 b (fun hAb => hs.1 X hX b hAb hb)]
      exact (g2 b hb).2.2
/-- what is owned, read -/
theorem own_reads {e : TypeId} {sz m c : Nat} {q : Option Addr} {cells : List Value} {h : HP} (hh : (own e sz q m c cells).holds h) : ∀ j v, cells[j]? = some v → cellO h q j = some v := by
  obtain ⟨h1, h2⟩ := hh
  intro j v hj
  rcases h2 with ⟨rfl, rfl, rfl⟩ | ⟨g, cur, rfl, hg, h3, h4, h5, h6⟩
  · have : cells = [] := List.eq_nil_of_length_eq_zero (by simpa using h1)
    simp [this] at hj
  · have hcj : cur[j]? = some v := by
      rw [← h6, List.getElem?_take] at hj
      split at hj
      · simpa using hj
      · cases hj
    simp [cellO, cellH, add_at, hg, hcj]
theorem own_ints {e : TypeId} {m c : Nat} {q : Option Addr} {xs : List Int} {h : HP} (hh : (own e 1 q m c (intsC xs)).holds h) : Ints h q xs := Ints.of (own_reads hh)
theorem own_terms {e : TypeId} {m c : Nat} {q : Option Addr} {ts : List Term} {h : HP} (hw : Wfs ts) (hh : (own e 9 q m c (tsC ts)).holds h) : Terms h q ts := Terms.of hw (own_reads hh)
theorem own_full {g : Nat} {cs : List Value} {e : TypeId} {w : World} (m sz : Nat) (hH : Hp B H0 H (obj g (.cells cs.toArray e (0, 0)) :: L) w) (hc : cs.length = m * sz) (hm : m ≤ maxLen) : Hp B H0 H (own e sz (some ⟨g, 0, none⟩) m m cs :: L) w := by
  have := own_of_obj (m := m) (c := m) (sz := sz) hH hc.symm (Nat.le_refl _) hm (L' := own e sz (some ⟨g, 0, none⟩) m m (cs.take (m * sz)) :: L) .z
  rwa [List.take_of_length_le (by omega)] at this
/-- a row opened: its block, whatever stands behind -/
theorem Hp.openOwn {e : TypeId} {sz m c : Nat} {q : Option Addr} {cells : List Value} {w : World} {C : Prop} (h : Hp B H0 H (own e sz q m c cells :: L) w) (hsz : 0 < sz)
    (k0 : q = none → m = 0 → c = 0 → cells = [] → C) (k : ∀ (g : Nat) (cs : List Value), q = some ⟨g, 0, none⟩ → cells.length = m * sz → cs.length = c * sz → m ≤ c → c ≤ maxLen → cs.take (m * sz) = cells → Hp B H0 H (obj g (.cells cs.toArray e (0, 0)) :: L) w → C) : C := by
  obtain ⟨⟨h1, h2⟩, _⟩ := h.objs _ (List.mem_cons_self)
  rcases h2 with ⟨rfl, rfl, rfl⟩ | ⟨g, cur, rfl, hg, h3, h4, h5, h6⟩
  · exact k0 rfl rfl rfl (List.eq_nil_of_length_eq_zero (by simpa using h1))
  · exact k g cur.toList rfl h1 (by simpa using h5) h3 h4 h6 (by
      have := h.reAt (A' := obj g (.cells cur e (0, 0))) (At.z) hg (fun b hb => ⟨_, rfl, (show b = g from hb).symm⟩)
      simpa using this)
theorem Hp.shutOwn {e : TypeId} {sz m c g : Nat} {cs : List Value} {w : World} (h : Hp B H0 H (obj g (.cells cs.toArray e (0, 0)) :: L) w) (hc : cs.length = c * sz) (hm : m ≤ c) (hc' : c ≤ maxLen) {cells : List Value} (hcl : cs.take (m * sz) = cells) : Hp B H0 H (own e sz (some ⟨g, 0, none⟩) m c cells :: L) w := by
  subst hcl
  exact own_of_obj h hc.symm hm hc' .z
/-- a list of numbers, written out -/
theorem J.litI2 {ty e : TypeId} {a b : Int} (hu : P.underlying ty = some (.slice e)) (hz : Zero P e [.int .i64 0]) (hs : Size P e 1) (hx : opv us x = some (.int .i64 a)) (hy : opv us y = some (.int .i64 b)) (hd : Nat.blt d n = true)
    (hk : ∀ g, J P ops Q n B H0 rest ((d, .slice (some ⟨g, 0, none⟩) [a, b].length 2) :: us) H (own e 1 (some ⟨g, 0, none⟩) [a, b].length 2 (intsC [a, b]) :: L)) :
    J P ops Q n B H0 (⟨some d, .buildSlice ty 2 #[(0, x), (1, y)], t, p, af, none⟩ :: rest) us H L :=
  J.lit2 hu hz hs hx hy rfl rfl hd fun g => J.toOwn 2 2 1 rfl (by decide) (by decide) .z (hk g)
theorem J.litI3 {ty e : TypeId} {a b c : Int} {z : Operand} (hu : P.underlying ty = some (.slice e)) (hz : Zero P e [.int .i64 0]) (hs : Size P e 1) (hx : opv us x = some (.int .i64 a)) (hy : opv us y = some (.int .i64 b)) (hz' : opv us z = some (.int .i64 c)) (hd : Nat.blt d n = true)
    (hk : ∀ g, J P ops Q n B H0 rest ((d, .slice (some ⟨g, 0, none⟩) [a, b, c].length 3) :: us) H (own e 1 (some ⟨g, 0, none⟩) [a, b, c].length 3 (intsC [a, b, c]) :: L)) :
    J P ops Q n B H0 (⟨some d, .buildSlice ty 3 #[(0, x), (1, y), (2, z)], t, p, af, none⟩ :: rest) us H L :=
  J.lit3 hu hz hs hx hy hz' rfl rfl rfl hd fun g => J.toOwn 3 3 1 rfl (by decide) (by decide) .z (hk g)
theorem Hp.own0 {w : World} (hH : Hp B H0 H L w) (e : TypeId) (sz : Nat) : Hp B H0 H (own e sz none 0 0 [] :: L) w :=
  hH.new (w' := w) ⟨rfl, rfl, rfl, Nat.le_refl _, fun _ _ _ => rfl⟩ ⟨by simp, .inl ⟨rfl, rfl, rfl⟩⟩ (fun b hb => by obtain ⟨_, h, _⟩ := hb; cases h)
end

/-! ### filling from the front -/
theorem fill_flat {M cs : List Value} {p : Nat} {v : Value} (hp : p < cs.length) (hv : M[p]? = some v) : (M.take p ++ cs.drop p).set p v = M.take (p + 1) ++ cs.drop (p + 1) := by
  obtain ⟨hM, rfl⟩ := List.getElem?_eq_some_iff.1 hv
  have ht : (M.take p).length = p := by simp; omega
  rw [List.set_append, if_neg (by omega), ht, Nat.sub_self, List.drop_eq_getElem_cons hp, List.set_cons_zero, List.take_succ_eq_append_getElem hM, List.append_assoc]
  rfl
/-- what a law writes: one number after the other -/
def marks (k : Int) (m : Nat) : List Int := (List.range m).map fun i => k + (i : Nat)
@[simp] theorem marks_length (k : Int) (m : Nat) : (marks k m).length = m := by simp [marks]
theorem marks_get {k : Int} {m i : Nat} (h : i < m) : (marks k m).getD i 0 = k + i := by
  simp [marks, List.getD_eq_getElem?_getD, h]
theorem marksC_get {k : Int} {m i : Nat} (h : i < m) : (intsC (marks k m))[i]? = some (.int .i64 (k + i)) := by
  rw [intsC_get (by simpa using h), marks_get h]
def markT (k : Int) : Term := ⟨(List.range 8).map fun j => IntKind.u8.wrap (k + (j : Nat)), k + 8⟩
def marksT (k : Int) (m : Nat) : List Term := (List.range m).map fun i => markT (k + 9 * (i : Nat))
theorem u8_wrap_bd (x : Int) : 0 ≤ IntKind.u8.wrap x ∧ IntKind.u8.wrap x ≤ 255 := by
  unfold IntKind.wrap
  simp only [IntKind.bits, IntKind.signed]
  have h1 := Int.emod_nonneg x (show (2 : Int) ^ 8 ≠ 0 by decide)
  have h2 := Int.emod_lt_of_pos x (show (0 : Int) < 2 ^ 8 by decide)
  have e : (2 : Int) ^ 8 = 256 := by decide
  rw [e] at h1 h2
  constructor
  · simp; omega
  · simp; omega
theorem markT_wf {k : Int} (h : -9223372036854775808 ≤ k + 8 ∧ k + 8 ≤ 9223372036854775807) : (markT k).wf :=
  ⟨⟨by simp [markT], fun i => by
    rcases Nat.lt_or_ge i 8 with hi | hi
    · have : (markT k).mono.getD i 0 = IntKind.u8.wrap (k + i) := by simp [markT, List.getD_eq_getElem?_getD, hi]
      rw [this]
      exact u8_wrap_bd _
    · have : (markT k).mono.getD i 0 = 0 := by simp [markT, List.getD_eq_getElem?_getD, hi]
      rw [this]
      decide⟩, h⟩
@[simp] theorem marksT_length (k : Int) (m : Nat) : (marksT k m).length = m := by simp [marksT]
theorem marksT_get {k : Int} {m i : Nat} (h : i < m) : tm (marksT k m) i = markT (k + 9 * (i : Nat)) := by
  simp [tm, marksT, List.getD_eq_getElem?_getD, h]
theorem marksT_wfs {k : Int} {m : Nat} (h : 0 ≤ k ∧ k + 9 * (m : Nat) ≤ 9223372036854775807) : Wfs (marksT k m) := fun t ht => by
  obtain ⟨i, hi, rfl⟩ := List.mem_map.1 ht
  have := List.mem_range.1 hi
  exact markT_wf (by omega)
theorem markT_byte {k : Int} {j : Nat} (h : j < 8) : (markT k).mono.getD j 0 = IntKind.u8.wrap (k + j) := by simp [markT, List.getD_eq_getElem?_getD, h]
theorem marksTC_byte {k : Int} {m i j : Nat} (hk : 0 ≤ k ∧ k + 9 * (m : Nat) ≤ 9223372036854775807) (h : i < m) (hj : j < 8) : (tsC (marksT k m))[i * 9 + j]? = some (.int .u8 (IntKind.u8.wrap (k + 9 * (i : Nat) + j))) := by
  refine tsC_get (marksT_wfs hk) (by simpa using h) ?_
  rw [marksT_get h, ← markT_byte hj]
  have hl : (markT (k + 9 * (i : Nat))).mono.length = 8 := by simp [markT]
  simp only [Term.c]
  rw [List.getElem?_append_left (by rw [bytesC_length]; omega)]
  exact bytesC_get (by omega)
theorem marksTC_fac {k : Int} {m i : Nat} (hk : 0 ≤ k ∧ k + 9 * (m : Nat) ≤ 9223372036854775807) (h : i < m) : (tsC (marksT k m))[i * 9 + 8]? = some (.int .i64 (k + 9 * (i : Nat) + 8)) := by
  refine tsC_get (marksT_wfs hk) (by simpa using h) ?_
  rw [marksT_get h]
  have hl : (markT (k + 9 * (i : Nat))).mono.length = 8 := by simp [markT]
  simp only [Term.c]
  rw [List.getElem?_append_right (by rw [bytesC_length]; omega), bytesC_length, hl]
  rfl
/-- numbers that a law has written -/
def MInts (H : HP) (q : Option Addr) (k : Int) (m : Nat) : Prop := ∀ i, i < m → cellO H q i = some (.int .i64 (k + (i : Nat)))
theorem MInts.sm {H : HP} {q : Option Addr} {k : Int} {m : Nat} (h : MInts H q k m) {i : Nat} (hi : i < m) : q.isSome = true := cellO_some (h i hi)
theorem MInts.le {H H' : HP} {q : Option Addr} {k : Int} {m : Nat} (h : MInts H q k m) (hle : Le H H') : MInts H' q k m := fun i hi => cellO_le hle (h i hi)
theorem own_mints {e : TypeId} {m c : Nat} {q : Option Addr} {k : Int} {h : HP} (hh : (own e 1 q m c (intsC (marks k m))).holds h) : MInts h q k m := fun i hi => own_reads hh i _ (marksC_get hi)
/-- terms that a law has written -/
structure MTerms (H : HP) (q : Option Addr) (k : Int) (m : Nat) : Prop where
  byte : ∀ i, i < m → ∀ j, j < 8 → cellO H q (i * 9 + j) = some (.int .u8 (IntKind.u8.wrap (k + 9 * (i : Nat) + (j : Nat))))
  fac : ∀ i, i < m → cellO H q (i * 9 + 8) = some (.int .i64 (k + 9 * (i : Nat) + 8))
theorem MTerms.sm {H : HP} {q : Option Addr} {k : Int} {m : Nat} (h : MTerms H q k m) {i : Nat} (hi : i < m) : q.isSome = true := cellO_some (h.fac i hi)
theorem MTerms.le {H H' : HP} {q : Option Addr} {k : Int} {m : Nat} (h : MTerms H q k m) (hle : Le H H') : MTerms H' q k m := ⟨fun i hi j hj => cellO_le hle (h.byte i hi j hj), fun i hi => cellO_le hle (h.fac i hi)⟩
theorem own_mterms {e : TypeId} {m c : Nat} {q : Option Addr} {k : Int} {h : HP} (hk : 0 ≤ k ∧ k + 9 * (m : Nat) ≤ 9223372036854775807) (hh : (own e 9 q m c (tsC (marksT k m))).holds h) : MTerms h q k m :=
  ⟨fun i hi j hj => own_reads hh _ _ (marksTC_byte hk hi hj), fun i hi => own_reads hh _ _ (marksTC_fac hk hi)⟩
end Go.Proofs.YtbjhllmcnfncdaaDoor.G
