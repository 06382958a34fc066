/- What groups and families pay. -/
import Derived.Test.YtjmklkhdemolmaaGreatDoorFared
namespace Go.Proofs.YtjmklkhdemolmaaGreatDoor
open Go.RowKit Go.Deep
set_option linter.unusedVariables false
set_option maxRecDepth 100000

theorem and3_cases (a b c : Bool) : (a = false ∧ Hid ((a && b && c) = false)) ∨ (a = true ∧ b = false ∧ Hid ((a && b && c) = false)) ∨ (a = true ∧ b = true ∧ c = false ∧ Hid ((a && b && c) = false)) ∨ (a = true ∧ b = true ∧ c = true ∧ Hid ((a && b && c) = true)) := by
  cases a
  · exact .inl ⟨rfl, rfl⟩
  · cases b
    · exact .inr (.inl ⟨rfl, rfl, rfl⟩)
    · cases c
      · exact .inr (.inr (.inl ⟨rfl, rfl, rfl, rfl⟩))
      · exact .inr (.inr (.inr ⟨rfl, rfl, rfl, rfl⟩))
theorem smul_bd {x b : Int} (h : -10000 ≤ x ∧ x ≤ 10000) (hb : 0 ≤ b ∧ b ≤ 1000000000) : -10000000000000 ≤ x * b ∧ x * b ≤ 10000000000000 := by
  rcases (show 0 ≤ x ∨ 0 ≤ -x by omega) with h0 | h0
  · have := mul_bd h0 h.2 hb.1 hb.2
    omega
  · have := mul_bd h0 (show -x ≤ 10000 by omega) hb.1 hb.2
    rw [Int.neg_mul] at this
    omega
/-- What the walk of the program meets of one fare: the code, then the fare. -/
def payF (p m o : Int) (b c d : Int) : Int × Int := ((p - p / m * o) * b, 0)
def payOk (p m o : Int) : Bool := inB p 0 100 && inB m 2 100 && inB o 0 m

def centsF (p m o : Int) (b c d : Int) : Int × Int := (p * b + m * rnd (b * o) 1000, 0)
def centsOk (p m o : Int) : Bool := inB p 0 100 && inB m 0 100 && inB o 0 1000

end Go.Proofs.YtjmklkhdemolmaaGreatDoor
