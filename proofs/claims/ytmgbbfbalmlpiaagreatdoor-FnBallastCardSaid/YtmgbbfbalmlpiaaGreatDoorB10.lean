/- Whether an input is too long for the laws of the second kind. -/
import Derived.Test.YtmgbbfbalmlpiaaGreatDoorSrcFrom
namespace Go.Proofs.YtmgbbfbalmlpiaaGreatDoor
open Go.RowKit Go.Deep
set_option linter.unusedVariables false
set_option maxRecDepth 100000

theorem l_b10Long (u : Value) (n : Nat) (W : World) (h : ByS W u n) : Calls Tryz.prog 4 #[u] W fun e W' => e = .returned (.bool (!decide (n ≤ 1048576))) ∧ W = W' := by
  obtain ⟨h1, ao, cap, rfl, -⟩ := h
  by_cases a : n ≤ 1048576
  · have hd : decide ((1048576 : Int) < n) = false := decide_eq_false (by omega)
    rw [decide_eq_true a]
    go_enter Tryz.func4, Tryz.ntmps4
    go_wp2
    go_ret
    exact ⟨by first | rfl | (simp [*]; done) | (simp [*]; omega), rfl⟩
  · have hd : decide ((1048576 : Int) < n) = true := decide_eq_true (by omega)
    rw [decide_eq_false a]
    go_enter Tryz.func4, Tryz.ntmps4
    go_wp2
    go_ret
    exact ⟨by first | rfl | (simp [*]; done) | (simp [*]; omega), rfl⟩

end Go.Proofs.YtmgbbfbalmlpiaaGreatDoor
