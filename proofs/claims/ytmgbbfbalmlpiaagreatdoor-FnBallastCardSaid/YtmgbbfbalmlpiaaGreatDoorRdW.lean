/- A ride read off its text: the two walks. -/
import Derived.Test.YtmgbbfbalmlpiaaGreatDoorRdP
namespace Go.Proofs.YtmgbbfbalmlpiaaGreatDoor
open Go.RowKit Go.Deep
set_option linter.unusedVariables false
set_option maxRecDepth 100000

theorem twoL_no {p : List (List UInt8)} (h : p.length ≠ 2) : twoL p = (0, 0, false) := by
  unfold twoL
  split
  · exact absurd rfl h
  · rfl
theorem twoL_yes (x y : List UInt8) : twoL [x, y] = (numV x, numV y, numB x && numB y) := by unfold twoL; rfl
theorem two_form {p : List (List UInt8)} (h : p.length = 2) : ∃ x y, p = [x, y] := by
  match p, h with
  | [x, y], _ => exact ⟨x, y, rfl⟩
theorem bsL_size (l : List UInt8) : (bsL l).size = l.length := by simp [bsL, ByteArray.size]
theorem ts_two0 (x y : ByteArray) : ts [x, y] 0 = .string x := by unfold ts; rfl
theorem ts_two1 (x y : ByteArray) : ts [x, y] 1 = .string y := by unfold ts; rfl
theorem splB_len (b : UInt8) (s : ByteArray) : (splB b s).length = (spl b [] s.data.toList).length := by unfold splB; simp

end Go.Proofs.YtmgbbfbalmlpiaaGreatDoor
