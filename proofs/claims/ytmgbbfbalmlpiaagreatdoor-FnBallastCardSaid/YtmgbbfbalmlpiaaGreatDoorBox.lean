/- A struct of four cells in a box: made, carried on, read. No program's function. -/
import Derived.Test.YtmgbbfbalmlpiaaGreatDoorAggs
namespace Go.Proofs.YtmgbbfbalmlpiaaGreatDoor
open Go.RowKit Go.Deep
set_option linter.unusedVariables false
set_option maxRecDepth 100000

theorem box_free4 {w : World} {cs : Array Value} {t : TypeId} {k : Nat} (i : Nat) (hk : w.heap.size = k) : (w.alloc (.cells cs t)).frozen? ⟨k, i, none⟩ = false := World.frozen?_alloc_at cs t k i hk.symm
theorem box_keep4 {w w1 : World} {b o : Nat} (hb : Below w.heap.size w w1) (hl : b < w.heap.size) (h : w.frozen? ⟨b, o, none⟩ = false) : w1.frozen? ⟨b, o, none⟩ = false := by
  rw [hb.frozen (p := ⟨b, o, none⟩) hl]; exact h
/-- Block g holds a, b, c, d and may be written. -/
def BoxAt (w : World) (g : Nat) (a b c d : Value) : Prop := g < w.heap.size ∧ w.cell? ⟨g, 0, none⟩ = some a ∧ w.cell? ⟨g, 1, none⟩ = some b ∧ w.cell? ⟨g, 2, none⟩ = some c ∧ w.cell? ⟨g, 3, none⟩ = some d ∧ ∀ i, w.frozen? ⟨g, i, none⟩ = false
theorem BoxAt.new (w : World) (a b c d : Value) (t : TypeId) : BoxAt (w.alloc (.cells #[a, b, c, d] t)) w.heap.size a b c d :=
  ⟨by simp, boxed_at rfl rfl, boxed_at rfl rfl, boxed_at rfl rfl, boxed_at rfl rfl, fun i => box_free4 i rfl⟩
theorem BoxAt.kept {w w1 : World} {g : Nat} {a b c d : Value} (h : BoxAt w g a b c d) (hb : Below w.heap.size w w1) : BoxAt w1 g a b c d :=
  ⟨Nat.lt_of_lt_of_le h.1 hb.size, cell_keep hb h.2.1, cell_keep hb h.2.2.1, cell_keep hb h.2.2.2.1, cell_keep hb h.2.2.2.2.1, fun i => box_keep4 hb h.1 (h.2.2.2.2.2 i)⟩
theorem BoxAt.drew {w : World} {g : Nat} {a b c d : Value} (h : BoxAt w g a b c d) : BoxAt w.drew g a b c d := h.kept (Below.refl _ _).drew

end Go.Proofs.YtmgbbfbalmlpiaaGreatDoor
