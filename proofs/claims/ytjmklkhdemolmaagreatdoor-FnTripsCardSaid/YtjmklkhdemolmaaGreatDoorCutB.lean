/- strings.Cut at one byte, whichever. -/
import Derived.Test.YtjmklkhdemolmaaGreatDoorRdP
namespace Go.Proofs.YtjmklkhdemolmaaGreatDoor
open Go.RowKit Go.Deep
set_option linter.unusedVariables false
set_option maxRecDepth 100000

theorem c_CutLb (s : ByteArray) (b : UInt8) (W : World) (hs : s.size ≤ 1048576) : Calls Tryz.prog 55 #[.string s, .string ⟨#[b]⟩] W fun e W' => ∃ B, e = .returned (.tuple #[.string (bsL (cutA b s.data.toList)), .string (bsL (cutB b s.data.toList)), .bool B]) ∧ Below W.heap.size W W' := by
  have HI := Lib.hid (fun w => Tryz.stringslite_Index_one s b w)
  have h1 := Lib.indexByte_ge s.data.toList b
  have hl : (⟨#[b]⟩ : ByteArray).size = 1 := rfl
  by_cases h : Lib.indexByte s.data.toList b = -1
  · obtain ⟨e1, e2⟩ := cut_none _ h
    rw [e1, e2, bsL_data]
    rw [h] at HI
    clear e1 e2 h h1
    go_enter Tryz.func55, Tryz.ntmps55
    go_wp2_with (go_at_call 65; refine (HI.out _).mono ?_; rintro e w' ⟨rfl, rfl⟩)
    refine bodyPost_ret (results_tmp3 rfl _ _ _) rfl ⟨false, rfl, Below.refl _ _⟩
  · obtain ⟨k, hk⟩ : ∃ k : Nat, Lib.indexByte s.data.toList b = (k : Int) := ⟨(Lib.indexByte s.data.toList b).toNat, by omega⟩
    obtain ⟨e1, e2, e3⟩ := cut_some _ k hk
    rw [size_list] at e3
    have x1 : bsL (cutA b s.data.toList) = s.extract 0 k := by rw [e1, extract_list, List.drop_zero, Nat.sub_zero]
    have x2 : bsL (cutB b s.data.toList) = s.extract (k + 1) s.size := by rw [e2, extract_list, List.take_of_length_le (by simp)]
    rw [x1, x2]
    rw [hk] at HI
    clear e1 e2 h h1 hk x1 x2
    go_enter Tryz.func55, Tryz.ntmps55
    go_wp2_with (go_at_call 65; refine (HI.out _).mono ?_; rintro e w' ⟨rfl, rfl⟩)
    go_quiet (fail)
    go_wp2_with fail
    refine bodyPost_ret (results_tmp3 rfl _ _ _) rfl ⟨true, rfl, (by repeat (first | assumption | exact Below.refl _ _ | refine kept_drew ?_ | refine kept_drewN ?_ _ | refine kept_alloc ?_ _ | refine kept_set ?_ ?_ _ | (simp; done) | (simp; omega) | refine kept_trans ?_ (by assumption)))⟩

theorem c_Cutb (s : ByteArray) (b : UInt8) (W : World) (hs : s.size ≤ 1048576) : Calls Tryz.prog 45 #[.string s, .string ⟨#[b]⟩] W fun e W' => ∃ B, e = .returned (.tuple #[.string (bsL (cutA b s.data.toList)), .string (bsL (cutB b s.data.toList)), .bool B]) ∧ Below W.heap.size W W' := by
  have HC := Lib.hid (fun w => c_CutLb s b w hs)
  generalize bsL (cutA b s.data.toList) = A at *
  generalize bsL (cutB b s.data.toList) = D at *
  go_enter Tryz.func45, Tryz.ntmps45
  go_wp2_with (go_at_call 55; refine (HC.out _).mono ?_; rintro e w' ⟨B, rfl, hb1⟩)
  refine bodyPost_ret (results_tmp3 rfl _ _ _) rfl ⟨B, rfl, hb1⟩

end Go.Proofs.YtjmklkhdemolmaaGreatDoor
