/- The text of a day: the reference and the program. -/
import Derived.Test.YtjoomijbbiageaaDoorTwo
namespace Go.Proofs.YtjoomijbbiageaaDoor
open Go.RowKit Go.Deep
set_option linter.unusedVariables false
set_option maxRecDepth 100000

/-- A date's text. -/
def dateS (y m d : Int) : ByteArray := decS y.toNat ++ ⟨#[45]⟩ ++ twoS m ++ ⟨#[45]⟩ ++ twoS d
theorem dateS_size {y m d : Int} (hy : 2000 ≤ y ∧ y ≤ 2099) (hm : 0 ≤ m ∧ m < 100) (hd : 0 ≤ d ∧ d < 100) : (dateS y m d).size ≤ 27 := by
  have h1 := decS_size (n := y.toNat) (by omega)
  have h2 := twoS_size hm
  have h3 := twoS_size hd
  unfold dateS
  simp only [ByteArray.size_append]
  rw [h2, h3, show (⟨#[45]⟩ : ByteArray).size = 1 from rfl]
  omega

theorem s_l02Text (d y m : Int) (W : World) (h : IsDate d y m) (hd : 0 ≤ d ∧ d ≤ 36524) : Calls Tryd.prog 16 #[.int .i64 d] W fun e W' => e = .returned (.string (dateS y m (d - dayD y m + 1))) ∧ Below W.heap.size W W' := by
  have HD := Lib.hid (s_l02Date d y m W h hd)
  have ml := mLen_bd y m
  obtain ⟨h1, h2, h3, h4, h5, h6⟩ := h
  have hq : 0 ≤ d - dayD y m + 1 ∧ d - dayD y m + 1 < 100 := by omega
  generalize d - dayD y m + 1 = q at *
  have HY := Lib.hid (fun w => s_DecInt y (by omega) w)
  have HM := Lib.hid (fun x w (hx : x = m ∨ x = q) => s_l02Two x w (by omega))
  unfold dateS
  have hY := decS_size (n := y.toNat) (by omega)
  have hM : (twoS m).size ≤ 2 := by rw [twoS_size (by omega)]; omega
  have hQ : (twoS q).size ≤ 2 := by rw [twoS_size (by omega)]; omega
  clear hd ml h1 h2 h3 h4 h5 h6 hq
  generalize decS y.toNat = Y at *
  go_enter Tryd.func16, Tryd.ntmps16
  go_wp2_with (first | (go_at_call 26; refine HD.out.mono ?_; rintro e w1 ⟨rfl, hb1⟩) | (go_at_call 17; refine (HY.out _).mono ?_; rintro e w2 ⟨rfl, hb2⟩) | (go_at_call 27; have hmk := hb3; refine (HM.out _ _ (Or.inr rfl)).mono ?_; rintro e w4 ⟨rfl, hb4⟩) | (go_at_call 27; refine (HM.out _ _ (Or.inl rfl)).mono ?_; rintro e w3 ⟨rfl, hb3⟩))
  go_ret
  exact ⟨rfl, kept_trans (kept_trans (kept_trans hb1 hb2) hb3) hb4⟩

theorem i_DateText (d y m : Int) (W : World) (h : IsDate d y m) (hd : 0 ≤ d ∧ d ≤ 36524) (htab : Tab10 W) : Calls Tryd.prog 11 #[.int .i64 d] W fun e W' => e = .returned (.string (dateS y m (d - dayD y m + 1))) ∧ Below W.heap.size W W' := by
  have HD := Lib.hid (i_dateOf d y m W h hd)
  have HI := inB_yes (n := d) (a := 0) (b := 36524) (by omega) (by omega)
  have ml := mLen_bd y m
  obtain ⟨h1, h2, h3, h4, h5, h6⟩ := h
  have hq : 0 ≤ d - dayD y m + 1 ∧ d - dayD y m + 1 < 100 := by omega
  generalize d - dayD y m + 1 = q at *
  have HY := Lib.hid (i_DecInt y (by omega) W htab)
  have HM := Lib.hid (fun x w (hx : x = m ∨ x = q) ht => i_padded x w (by omega) ht)
  have HTB := Lib.hid htab
  unfold dateS
  have hY := decS_size (n := y.toNat) (by omega)
  have hM : (twoS m).size ≤ 2 := by rw [twoS_size (by omega)]; omega
  have hQ : (twoS q).size ≤ 2 := by rw [twoS_size (by omega)]; omega
  clear hd ml h1 h2 h3 h4 h5 h6 hq htab
  generalize decS y.toNat = Y at *
  go_enter Tryd.func11, Tryd.ntmps11
  go_wp2_with (first | (go_at_call 19; refine (i_isDay _ _).mono ?_; rintro e w' ⟨rfl, rfl⟩) | (go_at_call 21; refine HD.out.mono ?_; rintro e w1 ⟨rfl, rfl⟩) | (go_at_call 12; refine HY.out.mono ?_; rintro e w2 ⟨rfl, hb2⟩) | (go_at_call 22; have hmk := hb3; refine (HM.out _ _ (Or.inr rfl) ((HTB.out.kept hb2).kept hb3)).mono ?_; rintro e w4 ⟨rfl, hb4⟩) | (go_at_call 22; refine (HM.out _ _ (Or.inl rfl) (HTB.out.kept hb2)).mono ?_; rintro e w3 ⟨rfl, hb3⟩))
  go_ret
  exact ⟨rfl, kept_trans (kept_trans hb2 hb3) hb4⟩

end Go.Proofs.YtjoomijbbiageaaDoor
