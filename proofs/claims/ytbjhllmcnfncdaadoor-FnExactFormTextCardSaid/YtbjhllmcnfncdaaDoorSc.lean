/- Texts of forms, as the program makes them. No condition. -/
import Derived.Test.YtbjhllmcnfncdaaDoorGStr
import Derived.Test.YtbjhllmcnfncdaaDoorProg
import Derived.Test.YtbjhllmcnfncdaaDoorWa
import Derived.Test.YtbjhllmcnfncdaaDoorWb
import Derived.Test.YtbjhllmcnfncdaaDoorWc
import Derived.Test.YtbjhllmcnfncdaaDoorWd
import Derived.Test.YtbjhllmcnfncdaaDoorWe
import Derived.Test.YtbjhllmcnfncdaaDoorSa
import Derived.Test.YtbjhllmcnfncdaaDoorSb
import Derived.Test.YtbjhllmcnfncdaaDoorShelf
import Derived.Lib.AppendIntMem
set_option linter.unusedVariables false
set_option linter.unusedSimpArgs false
namespace Go.Proofs.YtbjhllmcnfncdaaDoor.G
open Go Go.RowKit
namespace Sc
theorem u2 : Tryd.prog.underlying 2 = some (TypeDesc.int .i64) := by kernel_rfl
theorem u21 : Tryd.prog.underlying 21 = some (TypeDesc.int .i32) := by kernel_rfl
theorem u3 : Tryd.prog.underlying 3 = some (TypeDesc.int .i64) := by kernel_rfl
theorem u5 : Tryd.prog.underlying 5 = some (TypeDesc.int .u8) := by kernel_rfl
theorem u64 : Tryd.prog.underlying 64 = some (TypeDesc.array 8 5) := by kernel_rfl
theorem u9 : Tryd.prog.underlying 9 = some (TypeDesc.string) := by kernel_rfl
theorem sz5 : Size Tryd.prog 5 1 := by unfold Size; kernel_rfl
theorem pl5 : Plain Tryd.prog 5 := ⟨_, u5, rfl⟩
theorem ag64 : Agg Tryd.prog 64 8 := ⟨_, u64, rfl, by kernel_rfl⟩
theorem fn39 : Fn Tryd.prog 39 := ⟨_, Tryd.func39, by kernel_rfl, rfl⟩
theorem fn60 : Fn Tryd.prog 60 := ⟨_, Tryd.func60, by kernel_rfl, rfl⟩
end Sc
open Sc

def nmT : String := "internal/strconv.uint64pow10"
theorem si32_id {x : Int} (h : 0 ≤ x ∧ x ≤ 1000000) : IntKind.i32.wrap x = x := by simp [IntKind.wrap, IntKind.signed, IntKind.bits]; omega
theorem joinS_c {B : World} {H0 H : HP} {L : List SA} {w : World} {e : TypeId} {q : Option Addr} {c : Nat} {m : Nat} {xs : List (List UInt8)} {sep : List UInt8} (hxm : xs.length = m) (hm : own e 1 q m c (xs.map sV) ∈ L) (h0 : 0 < m) (hN : m ≤ 1048576) (hlen : (Lib.join xs sep).length ≤ 140737488355328) (hH : Hp B H0 H L w) :
    Calls Tryd.prog 41 [.slice q m c, sV sep].toArray w fun e w' => e = .returned (sV (Lib.join xs sep)) ∧ Hp B H0 H L w' := by
  subst hxm
  obtain ⟨hA, hfp⟩ := hH.objs _ hm
  obtain ⟨h1, h2⟩ := hA
  have hc := own_reads (hH.objs _ hm).1
  rcases h2 with ⟨_, h2, _⟩ | ⟨g, cur, rfl, hg, h3, h4, h5, h6⟩
  · omega
  have hml : ((xs.map fun l => (⟨l.toArray⟩ : ByteArray)).map fun b => b.data.toList) = xs := by
    rw [List.map_map]
    exact (List.map_congr_left (g := id) fun l _ => rfl).trans (List.map_id xs)
  have hb := (hfp g ⟨⟨g, 0, none⟩, rfl, rfl⟩).2.1
  have key := Tryd.strings_Join g 0 c (xs.map fun l => (⟨l.toArray⟩ : ByteArray)) ⟨sep.toArray⟩ w (fun j x hj => by
      rw [List.getElem?_map] at hj
      cases hx : xs[j]? with
      | none => rw [hx] at hj; simp at hj
      | some l =>
        rw [hx] at hj
        simp only [Option.map_some, Option.some.injEq] at hj
        subst hj
        have h9 := hc j (sV l) (by rw [List.getElem?_map, hx]; rfl)
        have h10 : w.cell? ((⟨g, 0, none⟩ : Addr).add j) = some (sV l) := h9
        rw [add_at] at h10
        simpa using h10) hb (by simp only [List.length_map]; omega) (by simpa using h3) (by rw [hml]; exact hlen)
  rw [List.length_map, hml] at key
  exact key.mono fun e w' ⟨h7, h8⟩ => ⟨h7, hH.belowOf h8⟩

set_option maxRecDepth 10000 in
theorem decimal_c {B : World} {H0 H : HP} {L : List SA} {w : World} {x : Int}  (hx : 0 ≤ x ∧ x ≤ 9223372036854775807) (hT : TabOk Tryd.prog nmT H) (hH : Hp B H0 H L w) :
    Calls Tryd.prog 39 [.int .i64 x].toArray w fun e w' => e = .returned (sV (decL x)) ∧ Hp B H0 H L w' := by
  refine CJ.enter Tryd.func39 rfl 5 rfl rfl [(0, .int .i64 x)] rfl hH ?_
  clear hH
  refine CJ.seq fun _ hK1 _ => ?_
  refine CJ.region ?_
  refine J.p (PR.assign rfl) rfl ?_
  refine J.nil ?_
  refine EJ.thenN (hK1 ?_)
  refine CJ.seq fun _ hK2 _ => ?_
  refine CJ.region ?_
  refine J.p (PR.move rfl) rfl ?_
  refine J.call fn60 rfl rfl fun w1 hH => (Tryd.strconv_FormatInt_10 x (by omega) (by omega) w1 (hT w1 hH.agree)).mono ?_
  rintro _ w ⟨rfl, k, os, hw⟩
  replace hH := hH.belowOf (w' := w) (by rw [hw]; exact Lib.below_grow _ _ (Nat.le_refl _) _ _)
  rw [decL_itoa hx.1]
  refine ⟨_, rfl, fun a hF => J.of hF hH ?_⟩
  refine J.p (PR.assign rfl) rfl ?_
  refine J.nil ?_
  refine EJ.thenN (hK2 ?_)
  refine CJ.ret ?_
  refine EJ.ret1 rfl (Res.tmp rfl) fun w hH => ?_
  exact ⟨rfl, hH⟩
set_option maxHeartbeats 2000000 in
set_option maxRecDepth 10000 in
theorem monomialText_c {B : World} {H0 H : HP} {L : List SA} {w : World} {m : List Int}  (hm : Mono m) (hT : TabOk Tryd.prog nmT H) (hH : Hp B H0 H L w) :
    Calls Tryd.prog 40 [.agg (bytesC m).toArray].toArray w fun e w' => e = .returned (sV (nameT m)) ∧ Hp B H0 H L w' := by
  refine CJ.enter Tryd.func40 rfl 30 rfl rfl [(0, .agg (bytesC m).toArray)] rfl hH ?_
  have hml := hm.len
  clear hH
  have hmb := hm.bd
  have hml9 := fun k => monT_len hmb k
  refine CJ.seq fun _ hK1 _ => ?_
  refine CJ.region ?_
  refine J.box rfl rfl rfl fun g1 => ?_
  refine J.p (PR.assign rfl) rfl ?_
  refine J.nil ?_
  refine EJ.thenN (hK1 ?_)
  refine CJ.seq fun _ hK2 _ => ?_
  refine CJ.region ?_
  refine J.p (PR.assign rfl) rfl ?_
  refine J.nil ?_
  refine EJ.thenN (hK2 ?_)
  refine CJ.seq fun _ hK3 _ => ?_
  refine CJ.seq fun _ hK4 _ => ?_
  refine CJ.region ?_
  refine J.p (PR.loadAll rfl At.z (by simpa [*] using ag64)) rfl ?_
  refine J.p (PR.move rfl) rfl ?_
  refine J.nil ?_
  refine EJ.thenN (hK4 ?_)
  refine CJ.block ?_
  refine CJ.loopU (σ := Nat) (fun (i : Nat) => [(7, .int .i64 (i : Int)), (3, sV (monT m i))]) (fun (i : Nat) => H) (fun (i : Nat) => obj g1 (.cells (bytesC m).toArray 64 (0, 0)) :: L) (fun (i : Nat) => i ≤ 8) (fun (i : Nat) => 8 - i) 0 (by omega) ⟨rfl, ⟨rfl, trivial⟩⟩ rfl rfl ?_
  rintro i hi _ hAg0
  have hli := hml9 i
  have hmi := hmb i
  have hdl := decL_len (n := m.getD i 0) hmi.1 (by omega)
  refine CJ.seq fun _ hK5 _ => ?_
  refine CJ.region ?_
  refine J.p (PR.lss rfl rfl) rfl ?_
  refine J.nil ?_
  refine EJ.thenN (hK5 ?_)
  refine CJ.seq fun _ hK6 _ => ?_
  refine CJ.condD rfl (fun hc8 => ?_) (fun hc8 => ?_)
  ·
    refine CJ.skip ?_
    refine EJ.thenN (hK6 ?_)
    refine CJ.seq fun _ hK7 _ => ?_
    refine CJ.block ?_
    refine CJ.seq fun _ hK8 _ => ?_
    refine CJ.region ?_
    refine J.p (PR.move rfl) rfl ?_
    refine J.p (PR.index u64 sz5 pl5 rfl rfl rfl (by omega) (by first | exact bytesC_get (by simp [*]; omega) | exact intsC_get (by simp [*]; omega))) rfl ?_
    refine J.p (PR.assign rfl) rfl ?_
    refine J.p (PR.assign rfl) rfl ?_
    refine J.nil ?_
    refine EJ.thenN (hK8 ?_)
    refine CJ.seq fun _ hK9 _ => ?_
    refine CJ.seq fun _ hK10 _ => ?_
    refine CJ.region ?_
    refine J.p (PR.move rfl) rfl ?_
    refine J.p (PR.gtr rfl rfl) rfl ?_
    refine J.nil ?_
    refine EJ.thenN (hK10 ?_)
    refine CJ.condD rfl (fun h12 => ?_) (fun h12 => ?_)
    ·
      refine CJ.region ?_
      refine J.p (PR.move rfl) rfl ?_
      refine J.p (PR.move rfl) rfl ?_
      refine J.p (PR.add rfl rfl (by first | exact nw _ (by omega) | rfl)) rfl ?_
      refine J.p (PR.conv u3 u21 rfl (si32_id (by omega))) rfl ?_
      refine J.p (PR.strRune u21 u9 rfl (by omega)) rfl ?_
      refine J.p (PR.strAdd rfl rfl (by first | omega | (simp only [List.length_append, List.length_singleton]; omega))) rfl ?_
      refine J.p (PR.assign rfl) rfl ?_
      refine J.nil ?_
      refine EJ.thenN (hK9 ?_)
      refine CJ.seq fun _ hK11 _ => ?_
      refine CJ.region ?_
      refine J.p (PR.move rfl) rfl ?_
      refine J.p (PR.gtr rfl rfl) rfl ?_
      refine J.nil ?_
      refine EJ.thenN (hK11 ?_)
      refine CJ.condD rfl (fun h20 => ?_) (fun h20 => ?_)
      ·
        refine CJ.region ?_
        refine J.p (PR.move rfl) rfl ?_
        refine J.p (PR.move rfl) rfl ?_
        refine J.p (PR.conv u5 u2 rfl (by first | exact nw _ (by omega) | rfl)) rfl ?_
        refine J.call fn39 rfl rfl fun w hH => (decimal_c (by omega) hT hH).mono ?_
        rintro _ w ⟨rfl, hH⟩
        refine ⟨_, rfl, fun a hF => J.of hF hH ?_⟩
        refine J.p (PR.strAdd rfl rfl (by first | omega | (simp only [List.length_append, List.length_singleton]; omega))) rfl ?_
        refine J.p (PR.assign rfl) rfl ?_
        refine J.nil ?_
        refine EJ.inN ?_
        refine EJ.thenN (hK7 ?_)
        refine CJ.region ?_
        refine J.p (PR.add rfl rfl (by first | exact nw _ (by omega) | rfl)) rfl ?_
        refine J.p (PR.move rfl) rfl ?_
        refine J.nil ?_
        refine EJ.thenN ?_
        exact hAg0 (i + 1) (by omega) (by omega) 26 rfl rfl ⟨rfl, ⟨(vS (monT_yy h12 h20)), trivial⟩⟩ rfl rfl
      ·
        refine CJ.skip ?_
        refine EJ.inN ?_
        refine EJ.thenN (hK7 ?_)
        refine CJ.region ?_
        refine J.p (PR.add rfl rfl (by first | exact nw _ (by omega) | rfl)) rfl ?_
        refine J.p (PR.move rfl) rfl ?_
        refine J.nil ?_
        refine EJ.thenN ?_
        exact hAg0 (i + 1) (by omega) (by omega) 20 rfl rfl ⟨rfl, ⟨(vS (monT_yn h12 h20)), trivial⟩⟩ rfl rfl
    ·
      refine CJ.skip ?_
      refine EJ.thenN (hK9 ?_)
      refine CJ.seq fun _ hK12 _ => ?_
      refine CJ.region ?_
      refine J.p (PR.move rfl) rfl ?_
      refine J.p (PR.gtr rfl rfl) rfl ?_
      refine J.nil ?_
      refine EJ.thenN (hK12 ?_)
      refine CJ.condD rfl (fun h20 => ?_) (fun h20 => ?_)
      ·
        refine CJ.region ?_
        refine J.p (PR.move rfl) rfl ?_
        refine J.p (PR.move rfl) rfl ?_
        refine J.p (PR.conv u5 u2 rfl (by first | exact nw _ (by omega) | rfl)) rfl ?_
        refine J.call fn39 rfl rfl fun w hH => (decimal_c (by omega) hT hH).mono ?_
        rintro _ w ⟨rfl, hH⟩
        refine ⟨_, rfl, fun a hF => J.of hF hH ?_⟩
        refine J.p (PR.strAdd rfl rfl (by first | omega | (simp only [List.length_append, List.length_singleton]; omega))) rfl ?_
        refine J.p (PR.assign rfl) rfl ?_
        refine J.nil ?_
        refine EJ.inN ?_
        refine EJ.thenN (hK7 ?_)
        refine CJ.region ?_
        refine J.p (PR.add rfl rfl (by first | exact nw _ (by omega) | rfl)) rfl ?_
        refine J.p (PR.move rfl) rfl ?_
        refine J.nil ?_
        refine EJ.thenN ?_
        exact hAg0 (i + 1) (by omega) (by omega) 19 rfl rfl ⟨rfl, ⟨(by exfalso; omega), trivial⟩⟩ rfl rfl
      ·
        refine CJ.skip ?_
        refine EJ.inN ?_
        refine EJ.thenN (hK7 ?_)
        refine CJ.region ?_
        refine J.p (PR.add rfl rfl (by first | exact nw _ (by omega) | rfl)) rfl ?_
        refine J.p (PR.move rfl) rfl ?_
        refine J.nil ?_
        refine EJ.thenN ?_
        exact hAg0 (i + 1) (by omega) (by omega) 13 rfl rfl ⟨rfl, ⟨(vS (monT_nn h12)), trivial⟩⟩ rfl rfl
  ·
    refine CJ.exit ?_
    refine EJ.thenE ?_
    refine EJ.thenE ?_
    refine EJ.inE ?_
    refine EJ.thenN (hK3 ?_)
    refine CJ.seq fun _ hK13 _ => ?_
    refine CJ.seq fun _ hK14 _ => ?_
    refine CJ.region ?_
    refine J.p (PR.move rfl) rfl ?_
    refine J.p (PR.strEql rfl rfl) rfl ?_
    refine J.nil ?_
    refine EJ.thenN (hK14 ?_)
    refine CJ.condD rfl (fun h28 => ?_) (fun h28 => ?_)
    ·
      refine CJ.seq fun _ hK15 _ => ?_
      refine CJ.region ?_
      refine J.p (PR.assign rfl) rfl ?_
      refine J.nil ?_
      refine EJ.thenN (hK15 ?_)
      refine CJ.ret ?_
      refine EJ.thenR ?_
      refine EJ.ret1 rfl (Res.tmp rfl) fun w hH => ?_
      replace hH := hH.tail
      obtain rfl : i = 8 := by omega
      exact ⟨by unfold nameT; rw [if_pos h28], hH⟩
    ·
      refine CJ.skip ?_
      refine EJ.thenN (hK13 ?_)
      refine CJ.seq fun _ hK16 _ => ?_
      refine CJ.region ?_
      refine J.p (PR.move rfl) rfl ?_
      refine J.p (PR.assign rfl) rfl ?_
      refine J.nil ?_
      refine EJ.thenN (hK16 ?_)
      refine CJ.ret ?_
      refine EJ.ret1 rfl (Res.tmp rfl) fun w hH => ?_
      replace hH := hH.tail
      obtain rfl : i = 8 := by omega
      exact ⟨by unfold nameT; rw [if_neg h28], hH⟩
end Go.Proofs.YtbjhllmcnfncdaaDoor.G
