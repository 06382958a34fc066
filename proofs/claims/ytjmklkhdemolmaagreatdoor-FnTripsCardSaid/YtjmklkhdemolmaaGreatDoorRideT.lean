/- The text of a ride: the reference, the program, the law. -/
import Derived.Test.YtjmklkhdemolmaaGreatDoorDec
import Derived.Test.YtjmklkhdemolmaaGreatDoorMrgB
import Derived.Deep.DeepCutAuto
import Derived.Deep.RegionHeld3
namespace Go.Proofs.YtjmklkhdemolmaaGreatDoor
open Go.RowKit Go.Deep
set_option linter.unusedVariables false
set_option maxRecDepth 100000

def rideS (l t : Int) : ByteArray := if vRide l t = true then decS l.toNat ++ ⟨#[43]⟩ ++ decS t.toNat else ⟨#[]⟩
theorem rideS_no {l t : Int} (h : vRide l t = false) : rideS l t = ⟨#[]⟩ := by unfold rideS; rw [if_neg (by rw [h]; simp)]
theorem rideS_yes {l t : Int} (h : vRide l t = true) : rideS l t = decS l.toNat ++ ⟨#[43]⟩ ++ decS t.toNat := by unfold rideS; rw [if_pos h]
attribute [irreducible] rideS

end Go.Proofs.YtjmklkhdemolmaaGreatDoor
