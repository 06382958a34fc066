/- Contracts on rides and slices of rides. -/
import Derived.Test.YtmgbbfbalmlpiaaGreatDoorBase
import Derived.Test.YtmgbbfbalmlpiaaGreatDoorOpen
namespace Go.Proofs.YtmgbbfbalmlpiaaGreatDoor
open Go.RowKit Go.Deep

/-- Rides as cells: leaves, takes. -/
def rc (lv tk : Nat → Int) : Nat → Value := fun j => .int .i64 (if j % 2 = 0 then lv (j / 2) else tk (j / 2))
theorem rc0 (lv tk : Nat → Int) (k : Nat) : rc lv tk (k * 2) = .int .i64 (lv k) := by unfold rc; rw [if_pos (by omega), show k * 2 / 2 = k by omega]
theorem rc1 (lv tk : Nat → Int) (k : Nat) : rc lv tk (k * 2 + 1) = .int .i64 (tk k) := by unfold rc; rw [if_neg (by omega), show (k * 2 + 1) / 2 = k by omega]
theorem rcells {w : World} {g off n : Nat} {lv tk : Nat → Int} (h : Row w g off (n * 2) (rc lv tk)) {k : Nat} (hk : k < n) :
    w.cell? ⟨g, off + k * 2, none⟩ = some (.int .i64 (lv k)) ∧ w.cell? ⟨g, off + k * 2 + 1, none⟩ = some (.int .i64 (tk k)) := by
  refine ⟨?_, ?_⟩
  · rw [h.cell (i := k * 2) (by omega), rc0]
  · have := h.cell (i := k * 2 + 1) (by omega)
    rw [rc1] at this
    exact this

end Go.Proofs.YtmgbbfbalmlpiaaGreatDoor
