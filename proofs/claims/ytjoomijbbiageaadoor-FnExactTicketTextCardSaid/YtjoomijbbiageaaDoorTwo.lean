/- A number with two digits; the text of a day. -/
import Derived.Test.YtjoomijbbiageaaDoorDates2
import Derived.Test.YtjoomijbbiageaaDoorDec
namespace Go.Proofs.YtjoomijbbiageaaDoor
open Go.RowKit Go.Deep
set_option linter.unusedVariables false
set_option maxRecDepth 100000

theorem empty_app (t : ByteArray) : (⟨#[]⟩ : ByteArray) ++ t = t := by apply ByteArray.ext; simp [ByteArray.data_append]
theorem decS_len (n : Nat) : (decS n).size = (Lib.decDigits n).length := by unfold decS; show (Lib.decDigits n).toArray.size = _; simp
theorem decS_len1 {n : Nat} (h : n < 10) : (decS n).size = 1 := by rw [decS_len, Lib.decDigits_one h]; rfl
theorem decS_len2 {n : Nat} (h : 10 ≤ n) (h2 : n < 100) : (decS n).size = 2 := by
  rw [decS_len, Lib.decDigits, dif_neg (by omega), Lib.decDigits_one (show n / 10 < 10 by omega)]; rfl
/-- A number below 100 with two digits. -/
def twoS (x : Int) : ByteArray := if x < 10 then ⟨#[48]⟩ ++ decS x.toNat else decS x.toNat
theorem twoS_lo {x : Int} (h : x < 10) : twoS x = ⟨#[48]⟩ ++ decS x.toNat := by unfold twoS; rw [if_pos h]
theorem twoS_hi {x : Int} (h : ¬ x < 10) : twoS x = decS x.toNat := by unfold twoS; rw [if_neg h]
theorem twoS_size {x : Int} (h : 0 ≤ x ∧ x < 100) : (twoS x).size = 2 := by
  by_cases e : x < 10
  · rw [twoS_lo e, ByteArray.size_append, decS_len1 (by omega)]; rfl
  · rw [twoS_hi e, decS_len2 (by omega) (by omega)]

theorem s_l02Two (x : Int) (W : World) (h : 0 ≤ x ∧ x < 100) : Calls Tryd.prog 27 #[.int .i64 x] W fun e W' => e = .returned (.string (twoS x)) ∧ Below W.heap.size W W' := by
  have HD := Lib.hid (s_DecInt x (by omega) W)
  by_cases e : x < 10
  · rw [twoS_lo e]
    have hs := decS_len1 (n := x.toNat) (by omega)
    generalize decS x.toNat = t at *
    go_enter Tryd.func27, Tryd.ntmps27
    go_wp2_with (go_at_call 17; refine HD.out.mono ?_; rintro e w1 ⟨rfl, hb1⟩)
    go_ret
    exact ⟨rfl, hb1⟩
  · rw [twoS_hi e]
    go_enter Tryd.func27, Tryd.ntmps27
    go_wp2_with (go_at_call 17; refine HD.out.mono ?_; rintro e w1 ⟨rfl, hb1⟩)
    go_ret
    exact ⟨rfl, hb1⟩

theorem repeat_zero (w : World) : Calls Tryd.prog 29 #[.string ⟨#[48]⟩, .int .i64 0] w fun e w' => e = .returned (.string ⟨#[]⟩) ∧ w = w' := by
  refine (Tryd.strings_Repeat_zero _ w).mono ?_
  rintro e w' ⟨rfl, rfl⟩
  exact ⟨rfl, rfl⟩
theorem repeat_one (w : World) : Calls Tryd.prog 29 #[.string ⟨#[48]⟩, .int .i64 1] w fun e w' => e = .returned (.string ⟨#[48]⟩) ∧ w = w' := by
  refine (Tryd.strings_Repeat_one _ w).mono ?_
  rintro e w' ⟨rfl, rfl⟩
  exact ⟨rfl, rfl⟩

theorem i_padded (x : Int) (W : World) (h : 0 ≤ x ∧ x < 100) (htab : Tab10 W) : Calls Tryd.prog 22 #[.int .i64 x, .int .i64 2] W fun e W' => e = .returned (.string (twoS x)) ∧ Below W.heap.size W W' := by
  have HD := Lib.hid (i_DecInt x (by omega) W htab)
  have HR0 := Lib.hid (fun w => repeat_zero w)
  have HR1 := Lib.hid (fun w => repeat_one w)
  by_cases e : x < 10
  · rw [twoS_lo e]
    have hs := decS_len1 (n := x.toNat) (by omega)
    generalize decS x.toNat = t at *
    clear e h HR0
    go_enter Tryd.func22, Tryd.ntmps22
    go_wp2_with (first | (go_at_call 12; refine HD.out.mono ?_; rintro e w1 ⟨rfl, hb1⟩) | (go_at_call 29; refine (HR1.out _).mono ?_; rintro e w2 ⟨rfl, rfl⟩))
    go_ret
    exact ⟨rfl, hb1⟩
  · rw [twoS_hi e]
    have hs := decS_len2 (n := x.toNat) (by omega) (by omega)
    generalize decS x.toNat = t at *
    clear e h HR1
    go_enter Tryd.func22, Tryd.ntmps22
    go_wp2_with (first | (go_at_call 12; refine HD.out.mono ?_; rintro e w1 ⟨rfl, hb1⟩) | (go_at_call 29; refine (HR0.out _).mono ?_; rintro e w2 ⟨rfl, rfl⟩))
    go_ret
    exact ⟨by first | rfl | (simp; done) | (simp; rw [empty_app]) | (show Ending.returned (.string (_ ++ _)) = _; rw [empty_app]), hb1⟩

end Go.Proofs.YtjoomijbbiageaaDoor
