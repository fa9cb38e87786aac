/- The walks: what each Go function does, shown from its text. No condition. -/
import Derived.Test.YtpojpokldncglaaGMake
import Derived.Test.YtpojpokldncglaaProg
import Derived.Test.YtpojpokldncglaaWa
import Derived.Test.YtpojpokldncglaaWb
import Derived.Test.YtpojpokldncglaaWc
import Derived.Test.YtpojpokldncglaaWd
import Derived.Test.YtpojpokldncglaaWe
import Derived.Test.YtpojpokldncglaaWf
import Derived.Test.YtpojpokldncglaaWg
import Derived.Test.YtpojpokldncglaaWh
import Derived.Test.YtpojpokldncglaaWi
import Derived.Test.YtpojpokldncglaaWj
import Derived.Test.YtpojpokldncglaaWk
set_option linter.unusedVariables false
set_option linter.unusedSimpArgs false
namespace Go.Proofs.Ytpojpokldncglaa.G
open Go Go.RowKit
namespace Wl

end Wl
open Wl

/-- 1, 3, 5 and so on -/
def odds (m : Nat) : List Int := (List.range m).map fun i => 2 * (i : Nat) + 1
@[simp] theorem odds_length (m : Nat) : (odds m).length = m := by simp [odds]
theorem odds_succ (m : Nat) : odds (m + 1) = odds m ++ [2 * (m : Int) + 1] := by simp [odds, List.range_succ]
def ones (m : Nat) : List Int := List.replicate m 1
@[simp] theorem ones_length (m : Nat) : (ones m).length = m := by simp [ones]
theorem ones_succ (m : Nat) : ones (m + 1) = ones m ++ [1] := by simp [ones, List.replicate_succ']
def uniOk (n : Int) : Bool := decide (1 ≤ n) && decide (n ≤ 6)
def uniD (n : Int) : List Int := if uniOk n then odds n.toNat else []
def uniF (n : Int) : List (List Term) := if uniOk n then List.replicate n.toNat [] else []
def uniC (n : Int) : Int := if uniOk n then 0 else 2
def torOk (n : Int) : Bool := decide (0 ≤ n) && decide (n ≤ 8)
def torD (n : Int) : List Int := if torOk n then ones n.toNat else []
def torF (n : Int) : List (List Term) := if torOk n then List.replicate n.toNat [] else []
def torC (n : Int) : Int := if torOk n then 0 else 2
theorem nils_wf {b : Bool} (m : Nat) : Wfss (if b then List.replicate m [] else []) := by
  cases b
  · exact fun f hf => by simp at hf
  · exact Wfss.nils _
theorem nils_len {b : Bool} {m : Nat} : ∀ i, (fm (if b then List.replicate m [] else []) i).length ≤ 9223372036854775807 := fun i => by
  unfold fm
  split
  · rw [List.getD_eq_getElem?_getD, List.getElem?_replicate]
    split <;> simp
  · simp
theorem nils_tot {b : Bool} {m : Nat} : tot (if b then List.replicate m [] else []) = 0 := by
  cases b
  · rfl
  · exact tot_nils _
theorem uniF_wf (n : Int) : Wfss (uniF n) := nils_wf _
theorem torF_wf (n : Int) : Wfss (torF n) := nils_wf _
theorem uniOk_bd {n : Int} (h : uniOk n = true) : 1 ≤ n ∧ n ≤ 6 := by simpa [uniOk] using h
theorem torOk_bd {n : Int} (h : torOk n = true) : 0 ≤ n ∧ n ≤ 8 := by simpa [torOk] using h
theorem uniD_len (n : Int) : (uniD n).length ≤ 8 := by
  unfold uniD
  split
  · rename_i h; have := uniOk_bd h; simp; omega
  · simp
theorem uniF_len (n : Int) : (uniF n).length ≤ 8 := by
  unfold uniF
  split
  · rename_i h; have := uniOk_bd h; simp; omega
  · simp
theorem torD_len (n : Int) : (torD n).length ≤ 8 := by
  unfold torD
  split
  · rename_i h; have := torOk_bd h; simp; omega
  · simp
theorem torF_len (n : Int) : (torF n).length ≤ 8 := by
  unfold torF
  split
  · rename_i h; have := torOk_bd h; simp; omega
  · simp

end Go.Proofs.Ytpojpokldncglaa.G
