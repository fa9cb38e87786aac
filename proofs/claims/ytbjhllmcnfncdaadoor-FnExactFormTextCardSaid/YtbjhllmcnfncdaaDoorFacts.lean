/- What is true of the translated program as a whole: how it was made, how its types lie. No condition. -/
import Derived.Test.YtbjhllmcnfncdaaDoorRows
import Derived.Test.YtbjhllmcnfncdaaDoorProg
import Derived.WalkKit
import Derived.KernelRfl
import Derived.JoinedOf
namespace Go.Proofs.YtbjhllmcnfncdaaDoor.Facts
open Go
set_option maxRecDepth 100000
def ioC : List Char := [104, 97, 114, 110, 101, 115, 115, 32, 52, 50, 100, 102, 101, 52, 101, 101, 53, 56, 97, 97, 55, 53, 99, 102, 102, 51, 55, 99, 56, 102, 100, 55, 48, 53, 98, 100, 56, 55, 101, 100, 51, 99, 54, 48, 99, 102, 53, 97, 102, 48, 101, 48, 101, 100, 53, 56, 57, 48, 49, 53, 97, 102, 100, 56, 97, 97, 53, 100, 57, 49, 51, 100, 32, 99, 117, 116, 32, 97, 116, 32, 108, 111, 111, 112, 46, 101, 120, 97, 109, 112, 108, 101, 47, 103, 48, 49, 50, 49, 57, 47, 108, 97, 119, 115, 46, 70, 110, 69, 120, 97, 99, 116, 70, 111, 114, 109, 84, 101, 120, 116, 32, 108, 111, 111, 112, 46, 101, 120, 97, 109, 112, 108, 101, 47, 103, 48, 49, 50, 49, 57, 47, 108, 97, 119, 115, 46, 70, 110, 69, 120, 97, 99, 116, 65, 108, 103, 101, 98, 114, 97, 84, 101, 120, 116].map Char.ofNat
theorem io : Tryd.prog.initOrder = String.ofList ioC := by kernel_rfl
theorem ioL : Tryd.prog.initOrder.toList = ioC := by rw [io, String.toList_ofList]
def ioW : List (List Char) := [[104, 97, 114, 110, 101, 115, 115].map Char.ofNat, [52, 50, 100, 102, 101, 52, 101, 101, 53, 56, 97, 97, 55, 53, 99, 102, 102, 51, 55, 99, 56, 102, 100, 55, 48, 53, 98, 100, 56, 55, 101, 100, 51, 99, 54, 48, 99, 102, 53, 97, 102, 48, 101, 48, 101, 100, 53, 56, 57, 48, 49, 53, 97, 102, 100, 56, 97, 97, 53, 100, 57, 49, 51, 100].map Char.ofNat, [99, 117, 116].map Char.ofNat, [97, 116].map Char.ofNat, [108, 111, 111, 112, 46, 101, 120, 97, 109, 112, 108, 101, 47, 103, 48, 49, 50, 49, 57, 47, 108, 97, 119, 115, 46, 70, 110, 69, 120, 97, 99, 116, 70, 111, 114, 109, 84, 101, 120, 116].map Char.ofNat, [108, 111, 111, 112, 46, 101, 120, 97, 109, 112, 108, 101, 47, 103, 48, 49, 50, 49, 57, 47, 108, 97, 119, 115, 46, 70, 110, 69, 120, 97, 99, 116, 65, 108, 103, 101, 98, 114, 97, 84, 101, 120, 116].map Char.ofNat]
theorem words : wordsSigns Tryd.prog.initOrder.toList = ioW := by
  rw [ioL]
  kernel_rfl
theorem fLater : Tryd.prog.laysLater = false := by kernel_rfl
theorem fRefl : Tryd.prog.bearsReflect = false := by kernel_rfl
theorem fFits : Tryd.prog.doorFits (stripLifts liftWords (behindMainWord ioW)).1 = true := by kernel_rfl
theorem fMake : Tryd.prog.make = some .cut := by
  have key : ∀ P : Program, wordsSigns P.initOrder.toList = ioW → P.make = some .cut := by
    intro P h
    unfold Program.make
    rw [h]
    rfl
  exact key _ words
theorem fLift : Tryd.prog.liftsFinal = false := by
  have key : ∀ P : Program, wordsSigns P.initOrder.toList = ioW → P.liftsFinal = false := by
    intro P h
    unfold Program.liftsFinal Program.headLifts
    rw [h]
    rfl
  exact key _ words
theorem fEnter : Tryd.prog.mayEnter = true := by
  have key : ∀ P : Program, wordsSigns P.initOrder.toList = ioW → P.laysLater = false → P.bearsReflect = false → P.doorFits (stripLifts liftWords (behindMainWord ioW)).1 = true → P.mayEnter = true := by
    intro P h h1 h2 h3
    unfold Program.mayEnter
    rw [h, h1, h2]
    exact h3
  exact key _ words fLater fRefl fFits
theorem fLaid : laidOutB Tryd.prog = true := by kernel_rfl
theorem fMaps : mapsRowed Tryd.prog = true := by kernel_rfl
theorem fKeys : Tryd.prog.plainKeys = false := by kernel_rfl
theorem fHeard : Tryd.prog.stopsHeard = true := by kernel_rfl
theorem fStops : Tryd.prog.stops = [] := by kernel_rfl
theorem fStopK : Tryd.prog.stopKnobs = [] := by kernel_rfl
end Go.Proofs.YtbjhllmcnfncdaaDoor.Facts
