/- The walks of sums: adding, products. No condition. -/
import Derived.Test.YtpojpokldncglaaGMap
import Derived.Test.YtpojpokldncglaaProg
import Derived.Test.YtpojpokldncglaaWa
import Derived.Test.YtpojpokldncglaaWb
import Derived.Test.YtpojpokldncglaaWc
import Derived.Test.YtpojpokldncglaaWd
import Derived.Test.YtpojpokldncglaaWe
import Derived.Test.YtpojpokldncglaaWf
import Derived.Test.YtpojpokldncglaaWg
import Derived.Test.YtpojpokldncglaaWh
import Derived.Test.YtpojpokldncglaaWi
import Derived.Test.YtpojpokldncglaaWj
import Derived.Test.YtpojpokldncglaaWk
import Derived.Test.YtpojpokldncglaaWl
import Derived.Test.YtpojpokldncglaaWm
import Derived.Test.YtpojpokldncglaaWn
import Derived.Test.YtpojpokldncglaaWo
import Derived.Test.YtpojpokldncglaaWp
import Derived.Test.YtpojpokldncglaaXa
import Derived.Test.YtpojpokldncglaaXb
import Derived.DeepKeys4
set_option linter.unusedVariables false
set_option linter.unusedSimpArgs false
namespace Go.Proofs.Ytpojpokldncglaa.G
open Go Go.RowKit
namespace Xc
theorem u107 : Try.prog.underlying 107 = some (TypeDesc.map 94 2) := by kernel_rfl
theorem u3 : Try.prog.underlying 3 = some (TypeDesc.int .i64) := by kernel_rfl
theorem u94 : Try.prog.underlying 94 = some (TypeDesc.array 8 3) := by kernel_rfl
theorem zv2 : ZeroV Try.prog 2 (.int .i64 0) := fun _ => by kernel_rfl
end Xc
open Xc

def pwE (p : Pw) : Value := .agg (intsC p).toArray
def pwOk (p : Pw) : Prop := p.length = 8 ∧ Small p
theorem pwOk_of {M : Int} {p : Pw} (h : Pok M p) (hM : M ≤ 1000000) : pwOk p := ⟨h.len, h.small hM⟩
theorem pwE_inj (x y : Pw) (h : pwE x = pwE y) : x = y := by
  unfold pwE intsC at h
  have h1 := congrArg (fun v => match v with | Value.agg cs => cs.toList | _ => []) h
  simp at h1
  exact (List.map_inj_right (fun a b h => by injection h)).1 h1
theorem keyLits8 {P : Program} {t e : TypeId} {d : Nat} {p : Pw} (ht : P.underlying t = some (.array 8 e)) (he : P.underlying e = some (.int .i64)) (hc : P.cellsOf e = 1) (hct : P.cellsOf t = 8) (h : pwOk p) : ∃ ls, P.keyLits (d + 2) t (intsC p) = some ls := by
  unfold Program.keyLits
  rw [ht]
  simp only [intsC_length, hct, h.1, if_true]
  have key : ∀ i, i < 8 → ∃ l, P.keyLits (d + 1) e (((intsC p).drop (i * P.cellsOf e)).take (P.cellsOf e)) = some l := by
    intro i hi
    have hb := h.2 i
    rw [hc, Nat.mul_one, List.drop_eq_getElem_cons (by simp [h.1]; omega), List.take_succ_cons, List.take_zero]
    have e1 : (intsC p)[i]'(by simp [h.1]; omega) = .int .i64 (p.getD i 0) := by
      have := intsC_get (m := p) (i := i) (by rw [h.1]; omega)
      rw [List.getElem?_eq_getElem (by simp [h.1]; omega)] at this
      exact Option.some.inj this
    rw [e1]
    refine ⟨[.int .i64 (p.getD i 0)], ?_⟩
    generalize p.getD i 0 = x at hb
    have hw : (Lit.int .i64 x).wf = true := by
      simp [Lit.wf, IntKind.min, IntKind.max, IntKind.signed, IntKind.bits]
      omega
    unfold Program.keyLits
    rw [he]
    simp [hw]
  have hm : ∀ (l : List Nat), (∀ i ∈ l, i < 8) → ∃ r, l.mapM (fun i => P.keyLits (d + 1) e (((intsC p).drop (i * P.cellsOf e)).take (P.cellsOf e))) = some r := by
    intro l
    induction l with
    | nil => intro _; exact ⟨[], rfl⟩
    | cons i l ih =>
      intro hl
      obtain ⟨a, ha⟩ := key i (hl i (by simp))
      obtain ⟨r, hr⟩ := ih fun j hj => hl j (by simp [hj])
      exact ⟨a :: r, by simp [List.mapM_cons, ha, hr]⟩
  obtain ⟨r, hr⟩ := hm (List.range 8) fun i hi => List.mem_range.1 hi
  rw [hr]
  exact ⟨_, rfl⟩
theorem pwK : KeyT Try.prog 94 pwE pwOk := KeyT.of (Go.Maps.Keyed.of_law (deep_law_laid (m := 5) (by kernel_rfl) (by decide) (of_decide_eq_true (by kernel_rfl)) (by kernel_rfl) (by kernel_rfl))) pwE_inj fun p hp => by
  obtain ⟨ls, hl⟩ := keyLits8 (P := Try.prog) (t := 94) (e := 3) (d := Try.prog.types.size - 1) u94 u3 (by kernel_rfl) (by kernel_rfl) hp
  have e1 : Try.prog.types.size - 1 + 2 = Try.prog.types.size + 1 := by kernel_rfl
  rw [e1] at hl
  have hc8 : Try.prog.cellsOf 94 = 8 := by kernel_rfl
  have hf : (pwE p).formed Try.prog 94 = true := by
    simp [pwE, Value.formed, u94, hc8, hp.1]
  refine ⟨.string (keyBytes ls), ?_⟩
  unfold keyOf
  rw [u94]
  simp only []
  have hkt : Try.prog.keyType 94 = true := by kernel_rfl
  rw [hkt, hf]
  simp only [Bool.and_self, if_true]
  have : (pwE p).cells.toList = intsC p := by simp [pwE, Value.cells]
  rw [this, hl]
  rfl


abbrev SumH (H : HP) (v : Value) (s : Sm) : Prop := MapH pwE (Value.int .i64) pwOk H v s
abbrev osum (b : Nat) (s : Sm) : SA := omap pwE (Value.int .i64) pwOk b s
section
variable {P : Program} {ops : Array Oper} {Q : Exit → Act → World → Prop} {n : Nat} {B : World} {H0 H : HP} {rest : List Oper} {us : List (Nat × Value)} {L L' : List SA} {t : TypeId} {p : String} {af : Array Edge} {d : Nat} {x y z : Operand}
theorem PR.sumH {ty K : TypeId} {s : Sm} {q : Pw} {mv : Value} (hK : KeyT P K pwE pwOk) (hu : P.underlying ty = some (.map K 2)) (hz : ZeroV P 2 (.int .i64 0)) (hx : opv us x = some mv) (hm : SumH H mv s) (hy : opv us y = some (.agg (intsC q).toArray)) (hk : pwOk q) : PR P n B H0 us H L (.lookup ty x y false) t (.int .i64 (cf s q)) := by
  rw [← look_cf]
  exact PR.lookH hu hK hz hx hm hy hk
theorem PR.sumO {ty K : TypeId} {s : Sm} {q : Pw} {b : Nat} (hK : KeyT P K pwE pwOk) (hu : P.underlying ty = some (.map K 2)) (hz : ZeroV P 2 (.int .i64 0)) (hx : opv us x = some (.map (some b))) (hat : At L (osum b s) (osum b s) L) (hy : opv us y = some (.agg (intsC q).toArray)) (hk : pwOk q) : PR P n B H0 us H L (.lookup ty x y false) t (.int .i64 (cf s q)) := by
  rw [← look_cf]
  exact PR.lookO hu hK hz hx hat hy hk
/-- the same map, its entries told in another order -/
theorem J.permO {b : Nat} {s s' : Sm} {L1 : List SA} (hp : s.Perm s') (hat : At L (osum b s) (osum b s') L1) (k : J P ops Q n B H0 rest us H L1) : J P ops Q n B H0 rest us H L := fun a w hF hH => k a w hF (hH.reAt hat (by
  obtain ⟨es, clock, h1, h2⟩ := (hH.objs _ hat.mem).1
  exact ⟨es, clock, h1, h2.perm hp⟩) fun _ h => h)
theorem At.both {A A' A'' : SA} (h : At L A A'' L') : ∃ L1, At L A A' L1 ∧ At L1 A' A'' L' := by
  induction h with
  | z => exact ⟨_, .z, .z⟩
  | s _ ih =>
    obtain ⟨L1, h1, h2⟩ := ih
    exact ⟨_, .s h1, .s h2⟩
theorem J.putP {ty K e : TypeId} {b : Nat} {s s' : Sm} {q : Pw} {v : Int} (hK : KeyT P K pwE pwOk) (hu : P.underlying ty = some (.map K e)) (hx : opv us x = some (.map (some b))) (hy : opv us y = some (.agg (intsC q).toArray)) (hz : opv us z = some (.int .i64 v)) (hk : pwOk q) (hp : (putM s q v).Perm s')
    (hat : At L (osum b s) (osum b s') L') (kk : J P ops Q n B H0 rest us H L') : J P ops Q n B H0 (⟨none, .mapUpdate ty x y z, t, p, af, none⟩ :: rest) us H L := by
  obtain ⟨L1, h1, h2⟩ := hat.both (A' := osum b (putM s q v))
  exact J.mapUpdate hu hK hx hy hz hk h1 (J.permO hp h2 kk)
theorem J.putAdd {ty K e : TypeId} {b : Nat} {s : Sm} {q : Pw} {M v k : Int} (hK : KeyT P K pwE pwOk) (hu : P.underlying ty = some (.map K e)) (hx : opv us x = some (.map (some b))) (hy : opv us y = some (.agg (intsC q).toArray)) (hz : opv us z = some (.int .i64 v)) (hk : pwOk q) (hs : Sok M s) (hq : Pok M q) (hv : v = fld (cf s q + k)) (h0 : v ≠ 0)
    (hat : At L (osum b s) (osum b (addS s q k)) L') (kk : J P ops Q n B H0 rest us H L') : J P ops Q n B H0 (⟨none, .mapUpdate ty x y z, t, p, af, none⟩ :: rest) us H L := by
  subst hv
  exact J.putP hK hu hx hy hz hk (put_add hq k hs h0) hat kk
theorem J.putOne {ty K e : TypeId} {b : Nat} {q : Pw} {v : Int} (hK : KeyT P K pwE pwOk) (hu : P.underlying ty = some (.map K e)) (hx : opv us x = some (.map (some b))) (hy : opv us y = some (.agg (intsC q).toArray)) (hz : opv us z = some (.int .i64 v)) (hk : pwOk q)
    (hat : At L (osum b []) (osum b [(q, v)]) L') (kk : J P ops Q n B H0 rest us H L') : J P ops Q n B H0 (⟨none, .insert ty x y z, t, p, af, none⟩ :: rest) us H L := J.insert hu hK hx hy hz hk hat kk
theorem J.delAdd {ty tk K e : TypeId} {b : Nat} {s : Sm} {q : Pw} {M k : Int} (hK : KeyT P K pwE pwOk) (hu : P.underlying ty = some (.map K e)) (hx : opv us x = some (.map (some b))) (hy : opv us y = some (.agg (intsC q).toArray)) (hk : pwOk q) (hs : Sok M s) (hq : Pok M q) (h0 : fld (cf s q + k) = 0)
    (hat : At L (osum b s) (osum b (addS s q k)) L') (kk : J P ops Q n B H0 rest us H L') : J P ops Q n B H0 (⟨none, .call { callee := .builtin .delete, args := #[x, y], argTypes := #[ty, tk] }, t, p, af, none⟩ :: rest) us H L := by
  obtain ⟨L1, h1, h2⟩ := hat.both (A' := osum b (delM s q))
  exact J.delete hu hK hx hy hk h1 (J.permO (del_add hq k hs h0) h2 kk)
end
theorem Sok.one {M : Int} {p : Pw} (h : Pok M p) {k : Int} (hk : 1 ≤ k ∧ k ≤ 10006) : Sok M [(p, k)] := ⟨by simp, fun x hx => by simp at hx; rw [hx]; exact h, fun x hx => by simp at hx; rw [hx]; exact hk⟩
theorem pokI {p : Pw} {M : Int} (h : Pok M p) (i : Nat) : 0 ≤ p.getD i 0 ∧ p.getD i 0 ≤ M := h.bd i

end Go.Proofs.Ytpojpokldncglaa.G
