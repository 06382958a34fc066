/- Contracts on slices of structs with a text first: Group. -/
import Derived.Test.YtjgajablgddkcaaDoorName
import Derived.Test.YtjgajablgddkcaaDoorOpen
namespace Go.Proofs.YtjgajablgddkcaaDoor
open Go.RowKit Go.Deep
set_option linter.unusedVariables false
set_option maxRecDepth 100000

/-- Elements of 4 cells, a text first. -/
def gc (a : Nat → ByteArray) (b c d : Nat → Int) : Nat → Value := fun j => if j % 4 = 0 then .string (a (j / 4)) else .int .i64 (if j % 4 = 1 then b (j / 4) else if j % 4 = 2 then c (j / 4) else d (j / 4))
theorem gc0 (a : Nat → ByteArray) (b c d : Nat → Int) (e : Nat) : gc a b c d (e * 4) = .string (a e) := by unfold gc; rw [if_pos (by omega), show (e * 4) / 4 = e by omega]
theorem gc1 (a : Nat → ByteArray) (b c d : Nat → Int) (e : Nat) : gc a b c d (e * 4 + 1) = .int .i64 (b e) := by unfold gc; rw [if_neg (by omega), if_pos (by omega), show (e * 4 + 1) / 4 = e by omega]
theorem gc2 (a : Nat → ByteArray) (b c d : Nat → Int) (e : Nat) : gc a b c d (e * 4 + 2) = .int .i64 (c e) := by unfold gc; rw [if_neg (by omega), if_neg (by omega), if_pos (by omega), show (e * 4 + 2) / 4 = e by omega]
theorem gc3 (a : Nat → ByteArray) (b c d : Nat → Int) (e : Nat) : gc a b c d (e * 4 + 3) = .int .i64 (d e) := by unfold gc; rw [if_neg (by omega), if_neg (by omega), if_neg (by omega), show (e * 4 + 3) / 4 = e by omega]
theorem gccells {w : World} {g off n : Nat} {a : Nat → ByteArray} {b c d : Nat → Int} (h : Row w g off (n * 4) (gc a b c d)) {e : Nat} (he : e < n) :
    w.cell? ⟨g, off + e * 4, none⟩ = some (.string (a e)) ∧ w.cell? ⟨g, off + e * 4 + 1, none⟩ = some (.int .i64 (b e)) ∧ w.cell? ⟨g, off + e * 4 + 2, none⟩ = some (.int .i64 (c e)) ∧ w.cell? ⟨g, off + e * 4 + 3, none⟩ = some (.int .i64 (d e)) := by
  refine ⟨?_, ?_, ?_, ?_⟩
  · rw [h.cell (i := e * 4) (by omega), gc0]
  · have := h.cell (i := e * 4 + 1) (by omega)
    rw [gc1] at this
    exact this
  · have := h.cell (i := e * 4 + 2) (by omega)
    rw [gc2] at this
    exact this
  · have := h.cell (i := e * 4 + 3) (by omega)
    rw [gc3] at this
    exact this

theorem at_getD4 {C : Array Value} {i : Nat} (h : i < C.size) : C[i]? = some ((C[i]?).getD undef) := by rw [Array.getElem?_eq_getElem h]; rfl

theorem infoGroup : (Tryd.prog.info? 34).map (fun i => (i.zero, i.size, i.bytes)) = some (some (.agg #[.string ⟨#[]⟩, .int .i64 0, .int .i64 0, .int .i64 0]), 4, 40) := by kernel_rfl

end Go.Proofs.YtjgajablgddkcaaDoor
