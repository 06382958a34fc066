/- The stores of a basin behind all trips. -/
import Derived.Test.YtmgbbfbalmlpiaaGreatDoorQueues
import Derived.Test.YtmgbbfbalmlpiaaGreatDoorQLawB
import Derived.Test.YtmgbbfbalmlpiaaGreatDoorBallast
namespace Go.Proofs.YtmgbbfbalmlpiaaGreatDoor
open Go.RowKit Go.Deep
set_option linter.unusedVariables false

/-- The store behind k trips. -/
def stW (wt : Nat → Int) (add s0 : Int) : Nat → Int
  | 0 => s0
  | k + 1 => if stW wt add s0 k - wt k + add < 10000000 then stW wt add s0 k - wt k + add else 10000000
theorem stW_zero (wt : Nat → Int) (add s0 : Int) : stW wt add s0 0 = s0 := rfl
theorem stW_succ (wt : Nat → Int) (add s0 : Int) (k : Nat) : stW wt add s0 (k + 1) = if stW wt add s0 k - wt k + add < 10000000 then stW wt add s0 k - wt k + add else 10000000 := rfl
theorem stW_bd {wt : Nat → Int} {add s0 : Int} (h0 : 0 ≤ s0 ∧ s0 ≤ 10000000) (ha : 0 ≤ add) : ∀ k, (∀ i, i < k → wt i ≤ stW wt add s0 i) → 0 ≤ stW wt add s0 k ∧ stW wt add s0 k ≤ 10000000
  | 0, _ => h0
  | k + 1, h => by
    have := h k (by omega)
    rw [stW_succ]
    split <;> omega
def stOk (n : Nat) (wt : Nat → Int) (add s0 : Int) : Bool := allTo (fun i => decide (wt i ≤ stW wt add s0 i)) n
theorem stOk_no {n : Nat} {wt : Nat → Int} {add s0 : Int} {k : Nat} (hk : k < n) (h : stW wt add s0 k < wt k) : stOk n wt add s0 = false := allTo_no hk (by simp; omega)
theorem stOk_yes {n : Nat} {wt : Nat → Int} {add s0 : Int} (h : ∀ i, i < n → wt i ≤ stW wt add s0 i) : stOk n wt add s0 = true := allTo_yes (fun i hi => by simp [h i hi])
attribute [irreducible] stW stOk
def stN (ok : Bool) (n : Nat) : Nat := if ok then n else 0
theorem stN_yes (n : Nat) : stN true n = n := rfl
theorem stN_no (n : Nat) : stN false n = 0 := rfl
theorem stN_le (ok : Bool) (n : Nat) (h : n ≤ 17592186044416) : stN ok n ≤ 17592186044416 := by unfold stN; split <;> omega
attribute [irreducible] stN
def StPost (n : Nat) (ok : Bool) (st : Nat → Int) (W : World) (e : Ending) (W' : World) : Prop :=
  ∃ g, e = .returned (.tuple #[g, .bool ok]) ∧ Below W.heap.size W W' ∧ Out W' W.heap.size 2 1 g (stN ok n) (ic (fun i => st (i + 1)))

end Go.Proofs.YtmgbbfbalmlpiaaGreatDoor
