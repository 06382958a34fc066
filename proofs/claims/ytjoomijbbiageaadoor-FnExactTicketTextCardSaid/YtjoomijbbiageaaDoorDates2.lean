/- The calendar: the walks of the two searches. -/
import Derived.Test.YtjoomijbbiageaaDoorDates
import Derived.OwnWalk
namespace Go.Proofs.YtjoomijbbiageaaDoor
open Go.RowKit Go.Deep
set_option linter.unusedVariables false
set_option maxRecDepth 100000

theorem mLen_out (y m : Int) : 28 ≤ mLen y m ∧ mLen y m ≤ 31 := mLen_bd y m

set_option maxHeartbeats 800000 in
theorem i_dateOf (d y m : Int) (W : World) (h : IsDate d y m) (hd : 0 ≤ d ∧ d ≤ 36524) : Calls Tryd.prog 21 #[.int .i64 d] W fun e W' => e = .returned (.tuple #[.int .i64 y, .int .i64 m, .int .i64 (d - dayD y m + 1)]) ∧ W = W' := by
  have HY := Lib.hid (fun a h1 => year_test h (a := a) h1)
  have HM := Lib.hid (fun a h0 h1 => month_test h (a := a) h0 h1)
  obtain ⟨h1, h2, h3, h4, h5, h6⟩ := h
  have HD := Lib.hid (fun a b w (ha : 2000 ≤ a ∧ a ≤ 2100) (hb : 1 ≤ b ∧ b ≤ 12) => i_dayOf a b 1 w ha hb (by omega))
  have hml := mLen_bd y m
  go_enter Tryd.func21, Tryd.ntmps21
  go_wp2
  go_loop [5] (fun a => ∃ b : Int, 2000 ≤ b ∧ b ≤ y ∧ a = .int .i64 b) (fun a => (2100 - intOf a).toNat)
  case atStart => exact ⟨2000, by omega, by omega, rfl⟩
  case round =>
    obtain ⟨b, hb0, hb1, rfl⟩ := hrel
    by_cases hlt : b < y
    · have hb2 : b < 2099 := by omega
      have HK := Lib.hid (HD.out (b + 1) 1 W (by omega) (by omega))
      have hz := ((HY.out b hb1).2 hlt).2
      generalize dayD (b + 1) 1 = z at *
      go_wp2_with (go_at_call 28; refine HK.out.mono ?_; rintro e w1 ⟨rfl, rfl⟩)
      go_round
      case rel => exact ⟨b + 1, by omega, by omega, by go_num⟩
      case measure => simp [intOf]; omega
    · obtain rfl : b = y := by omega
      have HK := Lib.hid (HD.out (b + 1) 1 W (by omega) (by omega))
      have hz : b < 2099 → ¬ dayD (b + 1) 1 ≤ d := fun h e => hlt ((HY.out b hb1).1 ⟨h, e⟩)
      generalize dayD (b + 1) 1 = z at *
      clear HY
      by_cases hb2 : b < 2099
      all_goals
        first | have hz2 := hz hb2 | skip
        clear hz
        go_wp2_with (go_at_call 28; refine HK.out.mono ?_; rintro e w1 ⟨rfl, rfl⟩)
        clear HK
        go_loop [6] (fun a => ∃ c : Int, 1 ≤ c ∧ c ≤ m ∧ a = .int .i64 c) (fun a => (13 - intOf a).toNat)
        case atStart => exact ⟨1, by omega, by omega, rfl⟩
        case round =>
          obtain ⟨c, hc0, hc1, rfl⟩ := hrel
          by_cases hcm : c < m
          · have hc2 : c < 12 := by omega
            have HK := Lib.hid (HD.out b (c + 1) W (by omega) (by omega))
            have hx := ((HM.out c hc0 hc1).2 hcm).2
            generalize dayD b (c + 1) = x at *
            go_wp2_with (go_at_call 28; refine HK.out.mono ?_; rintro e w1 ⟨rfl, rfl⟩)
            go_round
            case rel => exact ⟨c + 1, by omega, by omega, by go_num⟩
            case measure => simp [intOf]; omega
          · obtain rfl : c = m := by omega
            have HK := Lib.hid (HD.out b (c + 1) W)
            have HE := Lib.hid (HD.out b c W (by omega) (by omega))
            have hx : c < 12 → ¬ dayD b (c + 1) ≤ d := fun h e => hcm ((HM.out c hc0 hc1).1 ⟨h, e⟩)
            generalize dayD b (c + 1) = x at *
            generalize hv : dayD b c = v at *
            have HV := Lib.hid hv
            clear hv
            clear HM
            by_cases hc2 : c < 12
            · have hx2 := hx hc2
              have HL := Lib.hid (HK.out (by omega) (by omega))
              clear hx HK
              go_wp2_with (first | (go_at_call 28; have mk2 := mk1; refine HE.out.mono ?_; rintro e w1 ⟨rfl, rfl⟩) | (go_at_call 28; refine HL.out.mono ?_; rintro e w1 ⟨rfl, rfl⟩; have mk1 : True := trivial))
              go_ret3
              exact ⟨by simp [HV.out], rfl⟩
            · clear hx HK
              go_wp2_with (go_at_call 28; refine HE.out.mono ?_; rintro e w1 ⟨rfl, rfl⟩)
              go_ret3
              exact ⟨by simp [HV.out], rfl⟩

theorem next_date {d y m a b : Int} (h : IsDate d y m) (hd : d ≤ 36524) (ha : 2000 ≤ a) (hb : 1 ≤ b ∧ b ≤ 12) (h0 : dayD a b ≤ d) : a ≤ 2099 ∧ (d - dayD a b < mLen a b → a = y ∧ b = m) ∧ (b < 12 → dayD a (b + 1) = dayD a b + mLen a b) ∧ (b = 12 → dayD (a + 1) 1 = dayD a b + mLen a b) := by
  have h1 := dayD_y hd hb.1 h0
  refine ⟨h1, fun h2 => ?_, fun h2 => dayD_next a hb.1, fun h2 => by subst h2; exact dayD_year a⟩
  exact IsDate.uniq (d := d) ⟨ha, h1, hb.1, hb.2, h0, by omega⟩ h

set_option maxHeartbeats 800000 in
theorem s_l02Date (d y m : Int) (W : World) (h : IsDate d y m) (hd : 0 ≤ d ∧ d ≤ 36524) : Calls Tryd.prog 26 #[.int .i64 d] W fun e W' => e = .returned (.tuple #[.int .i64 y, .int .i64 m, .int .i64 (d - dayD y m + 1)]) ∧ Below W.heap.size W W' := by
  have HN := Lib.hid (fun a b ha hb h0 => next_date h hd.2 (a := a) (b := b) ha hb h0)
  have HL := Lib.hid (fun a b w (ha : 2000 ≤ a ∧ a ≤ 2100) (hb : 1 ≤ b ∧ b ≤ 12) => s_l02Length a b w ha hb)
  have h20 : dayD 2000 1 = 0 := by rw [dayD_first]; rfl
  clear h
  go_enter Tryd.func26, Tryd.ntmps26
  go_wp2
  go_loopw [0, 5, 6] (fun x p q wr => ∃ (a b : Int), 2000 ≤ a ∧ 1 ≤ b ∧ b ≤ 12 ∧ dayD a b ≤ d ∧ x = .int .i64 (d - dayD a b) ∧ p = .int .i64 a ∧ q = .int .i64 b ∧ Below W.heap.size W wr) (fun x _ _ _ => (intOf x).toNat)
  case atStart => exact ⟨2000, 1, by omega, by omega, by omega, by omega, by rw [h20]; simp, rfl, rfl, Below.refl _ _⟩
  case round =>
    clear h20
    obtain ⟨a, b, ha, hb1, hb2, h0, rfl, rfl, rfl, hk⟩ := hrel
    obtain ⟨n1, n2, n3, n4⟩ := HN.out a b ha ⟨hb1, hb2⟩ h0
    have HK := Lib.hid (fun w => HL.out a b w (by omega) (by omega))
    have ml := mLen_bd a b
    have hd0 : 0 ≤ dayD a b := by
      have := dayD_ge a hb1
      rw [dayD_first] at this
      omega
    by_cases hlt : d - dayD a b < mLen a b
    · obtain ⟨rfl, rfl⟩ := n2 hlt
      clear n2 n3 n4 HN HL
      generalize hv : d - dayD a b = v at *
      have HV := Lib.hid hv
      have hv0 : 0 ≤ v ∧ v ≤ 36524 := by omega
      clear hv h0 hd0
      generalize mLen a b = l at *
      go_wp2_with (go_at_call 31; refine (HK.out _).mono ?_; rintro e w1 ⟨rfl, hx1⟩)
      go_ret3
      exact ⟨by rw [HV.out]; rfl, kept_trans hk hx1⟩
    · have hge : mLen a b ≤ d - dayD a b := by omega
      clear n2 HN HL
      generalize hv : d - dayD a b = v at *
      generalize hl : mLen a b = l at *
      have HV := Lib.hid hv
      have hv0 : 0 ≤ v ∧ v ≤ 36524 := by omega
      clear hv hl hd0
      by_cases h12 : b < 12
      · have HR := Lib.hid (n3 h12)
        clear n3 n4
        go_wp2_with (go_at_call 31; refine (HK.out _).mono ?_; rintro e w1 ⟨rfl, hx1⟩)
        have HB : Below W.heap.size W w1 := by (repeat (first | assumption | refine kept_trans ?_ (by assumption)))
        go_roundw
        case rel => exact ⟨a, b + 1, by omega, by omega, by omega, by have := HR.out; have := HV.out; omega, by congr 1; have := HR.out; have := HV.out; omega, rfl, by go_num, HB⟩
        case measure => simp [intOf]; omega
      · obtain rfl : b = 12 := by omega
        have HR := Lib.hid (n4 rfl)
        clear n3 n4
        go_wp2_with (go_at_call 31; refine (HK.out _).mono ?_; rintro e w1 ⟨rfl, hx1⟩)
        have HB : Below W.heap.size W w1 := by (repeat (first | assumption | refine kept_trans ?_ (by assumption)))
        go_roundw
        case rel => exact ⟨a + 1, 1, by omega, by omega, by omega, by have := HR.out; have := HV.out; omega, by congr 1; have := HR.out; have := HV.out; omega, by go_num, rfl, HB⟩
        case measure => simp [intOf]; omega

end Go.Proofs.YtjoomijbbiageaaDoor
