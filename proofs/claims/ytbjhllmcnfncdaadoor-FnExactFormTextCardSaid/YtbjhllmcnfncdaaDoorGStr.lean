/- Strings: told by their bytes. No condition. -/
import Derived.Test.YtbjhllmcnfncdaaDoorGRep
import Derived.Laws.Concat
import Derived.Laws.IdiomStrings
import Derived.Laws.Strings
import Derived.Lib.ItoaNum
import Derived.Lib.Join
import Derived.Lib.LaidTab
namespace Go.Proofs.YtbjhllmcnfncdaaDoor.G
open Go Go.RowKit

abbrev sV (l : List UInt8) : Value := .string ⟨l.toArray⟩
section
variable {P : Program} {ops : Array Oper} {Q : Exit → Act → World → Prop} {n : Nat} {B : World} {H0 H : HP} {rest : List Oper} {us : List (Nat × Value)} {L L' : List SA} {t xt yt : TypeId} {p : String} {af : Array Edge} {d : Nat} {x y : Operand}
theorem PR.strAdd {a b : List UInt8} (hx : opv us x = some (sV a)) (hy : opv us y = some (sV b)) (hl : a.length + b.length ≤ 9223372036854775807) : PR P n B H0 us H L (.binOp .add xt x y yt) t (sV (a ++ b)) :=
  fun _ _ _ _ ac w hF _ => by
    have h1 := run_string_add_sum (P := P) w ⟨a.toArray⟩ ⟨b.toArray⟩ (by simp [ByteArray.size]; omega)
    rw [ByteArray.mk_append_mk] at h1
    simp only [execOp, hF.ev hx, hF.ev hy, binOp_string_add]
    simp [eqGuard, h1]
theorem PR.strEql {a b : List UInt8} (hx : opv us x = some (sV a)) (hy : opv us y = some (sV b)) : PR P n B H0 us H L (.binOp .eql xt x y yt) t (.bool (decide (a = b))) :=
  fun _ _ _ _ ac w hF _ => by
    simp only [execOp, hF.ev hx, hF.ev hy, binOp_string_eql, ByteArray.toList_mk]
    have he : (a == b) = decide (a = b) := by by_cases h : a = b <;> simp [h]
    simp [eqGuard, he]
theorem PR.strNeq {a b : List UInt8} (hx : opv us x = some (sV a)) (hy : opv us y = some (sV b)) : PR P n B H0 us H L (.binOp .neq xt x y yt) t (.bool (decide (a ≠ b))) :=
  fun _ _ _ _ ac w hF _ => by
    have hb : binOp .neq xt (sV a) (sV b) = pure (.bool !(a == b)) := by simp [binOp, Op.stringOp]
    simp only [execOp, hF.ev hx, hF.ev hy, hb]
    have he : (!(a == b)) = decide (a ≠ b) := by by_cases h : a = b <;> simp [h]
    rw [he]
    simp [eqGuard]
/-- string([]byte{v}) -/
theorem PR.str1 {e : TypeId} {q : Option Addr} {c : Nat} {v : Int} (hs : P.underlying xt = some (.slice e)) (he : P.underlying e = some (.int .u8)) (hd : P.underlying yt = some .string) (hx : opv us x = some (.slice q 1 c)) (hat : At L (own e 1 q 1 c [.int .u8 v]) (own e 1 q 1 c [.int .u8 v]) L) (hv : 0 ≤ v ∧ v ≤ 255) : PR P n B H0 us H L (.convert xt yt x) t (sV [UInt8.ofNat v.toNat]) :=
  fun _ _ _ _ ac w hF hH => by
    have h1 := own_reads (hH.objs _ hat.mem).1 0 _ rfl
    cases q with
    | none => simp [cellO] at h1
    | some a =>
      have h2 := run_convert_bytes_back (P := P) w xt yt e a c [UInt8.ofNat v.toNat] hs he hd fun j hj => by
        obtain rfl : j = 0 := by simpa using hj
        have h3 : w.cell? (a.add 0) = some (.int .u8 v) := h1
        rw [h3]
        have h4 : v.toNat % 256 = v.toNat := by omega
        simp [UInt8.toNat_ofNat, h4]
        omega
      simp only [List.length_singleton] at h2
      simp [execOp, hF.ev hx, h2]
/-- string(r), a rune of ASCII -/
theorem PR.strRune {k : IntKind} {v : Int} {ds : TypeDesc} (hs : P.underlying xt = some ds) (hd : P.underlying yt = some .string) (hx : opv us x = some (.int k v)) (hv : 0 ≤ v ∧ v < 128) : PR P n B H0 us H L (.convert xt yt x) t (sV [UInt8.ofNat v.toNat]) :=
  fun _ _ _ _ ac w hF _ => by
    have h1 : Utf8.encode v = ⟨[UInt8.ofNat v.toNat].toArray⟩ := by
      have hval : Utf8.valid v = true := by simp [Utf8.valid]; omega
      have hlt : v.toNat < 128 := by omega
      simp [Utf8.encode, hval, hlt]
    simp [execOp, hF.ev hx, convert, run_underlying hs, run_underlying hd, Conv.intToString, h1]
end
/-- what the library's table of powers of ten reads as, wherever the old blocks stand -/
def TabOk (P : Program) (nm : String) (H : HP) : Prop := ∀ w : World, (∀ b o, H b = some o → hp w b = some o) → Lib.TabIs P w nm .u64 Lib.pow10Tab
theorem TabOk.le {P : Program} {nm : String} {H H' : HP} (h : TabOk P nm H) (hle : Le H H') : TabOk P nm H' := fun w hw => h w fun b o hb => hw b o (hle b o hb)
/-- what may be new and drawn, nothing old turned -/
theorem Hp.belowOf {B : World} {H0 H : HP} {L : List SA} {w w' : World} (h : Hp B H0 H L w) (hb : Below w.heap.size w w') : Hp B H0 H L w' :=
  h.chg0 ⟨hb.os, hb.tape, hb.output, hb.size, fun b hb' _ => hb.block b hb'⟩
end Go.Proofs.YtbjhllmcnfncdaaDoor.G
