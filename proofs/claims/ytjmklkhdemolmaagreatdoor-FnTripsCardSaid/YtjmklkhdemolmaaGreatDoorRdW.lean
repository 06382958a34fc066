/- A ride read off its text: the two walks. -/
import Derived.Test.YtjmklkhdemolmaaGreatDoorRdP
namespace Go.Proofs.YtjmklkhdemolmaaGreatDoor
open Go.RowKit Go.Deep
set_option linter.unusedVariables false
set_option maxRecDepth 100000

theorem c_CutL (s : ByteArray) (W : World) (hs : s.size ≤ 1048576) : Calls Tryz.prog 55 #[.string s, .string ⟨#[43]⟩] W fun e W' => ∃ B, e = .returned (.tuple #[.string (bsL (cutA 43 s.data.toList)), .string (bsL (cutB 43 s.data.toList)), .bool B]) ∧ Below W.heap.size W W' := by
  have HI := Lib.hid (fun w => Tryz.stringslite_Index_one s 43 w)
  have h1 := Lib.indexByte_ge s.data.toList 43
  have hl : (⟨#[43]⟩ : ByteArray).size = 1 := rfl
  by_cases h : Lib.indexByte s.data.toList 43 = -1
  · obtain ⟨e1, e2⟩ := cut_none _ h
    rw [e1, e2, bsL_data]
    rw [h] at HI
    clear e1 e2 h h1
    go_enter Tryz.func55, Tryz.ntmps55
    go_wp2_with (go_at_call 65; refine (HI.out _).mono ?_; rintro e w' ⟨rfl, rfl⟩)
    refine bodyPost_ret (results_tmp3 rfl _ _ _) rfl ⟨false, rfl, Below.refl _ _⟩
  · obtain ⟨k, hk⟩ : ∃ k : Nat, Lib.indexByte s.data.toList 43 = (k : Int) := ⟨(Lib.indexByte s.data.toList 43).toNat, by omega⟩
    obtain ⟨e1, e2, e3⟩ := cut_some _ k hk
    rw [size_list] at e3
    have x1 : bsL (cutA 43 s.data.toList) = s.extract 0 k := by rw [e1, extract_list, List.drop_zero, Nat.sub_zero]
    have x2 : bsL (cutB 43 s.data.toList) = s.extract (k + 1) s.size := by rw [e2, extract_list, List.take_of_length_le (by simp)]
    rw [x1, x2]
    rw [hk] at HI
    clear e1 e2 h h1 hk x1 x2
    go_enter Tryz.func55, Tryz.ntmps55
    go_wp2_with (go_at_call 65; refine (HI.out _).mono ?_; rintro e w' ⟨rfl, rfl⟩)
    go_quiet (fail)
    go_wp2_with fail
    refine bodyPost_ret (results_tmp3 rfl _ _ _) rfl ⟨true, rfl, (by repeat (first | assumption | exact Below.refl _ _ | refine kept_drew ?_ | refine kept_drewN ?_ _ | refine kept_alloc ?_ _ | refine kept_set ?_ ?_ _ | (simp; done) | (simp; omega) | refine kept_trans ?_ (by assumption)))⟩

theorem c_Cut (s : ByteArray) (W : World) (hs : s.size ≤ 1048576) : Calls Tryz.prog 45 #[.string s, .string ⟨#[43]⟩] W fun e W' => ∃ B, e = .returned (.tuple #[.string (bsL (cutA 43 s.data.toList)), .string (bsL (cutB 43 s.data.toList)), .bool B]) ∧ Below W.heap.size W W' := by
  have HC := Lib.hid (fun w => c_CutL s w hs)
  generalize bsL (cutA 43 s.data.toList) = A at *
  generalize bsL (cutB 43 s.data.toList) = D at *
  go_enter Tryz.func45, Tryz.ntmps45
  go_wp2_with (go_at_call 55; refine (HC.out _).mono ?_; rintro e w' ⟨B, rfl, hb1⟩)
  refine bodyPost_ret (results_tmp3 rfl _ _ _) rfl ⟨B, rfl, hb1⟩

theorem twoL_no {p : List (List UInt8)} (h : p.length ≠ 2) : twoL p = (0, 0, false) := by
  unfold twoL
  split
  · exact absurd rfl h
  · rfl
theorem twoL_yes (x y : List UInt8) : twoL [x, y] = (numV x, numV y, numB x && numB y) := by unfold twoL; rfl
theorem two_form {p : List (List UInt8)} (h : p.length = 2) : ∃ x y, p = [x, y] := by
  match p, h with
  | [x, y], _ => exact ⟨x, y, rfl⟩
theorem bsL_size (l : List UInt8) : (bsL l).size = l.length := by simp [bsL, ByteArray.size]
theorem ts_two0 (x y : ByteArray) : ts [x, y] 0 = .string x := by unfold ts; rfl
theorem ts_two1 (x y : ByteArray) : ts [x, y] 1 = .string y := by unfold ts; rfl
theorem splB_len (b : UInt8) (s : ByteArray) : (splB b s).length = (spl b [] s.data.toList).length := by unfold splB; simp

end Go.Proofs.YtjmklkhdemolmaaGreatDoor
