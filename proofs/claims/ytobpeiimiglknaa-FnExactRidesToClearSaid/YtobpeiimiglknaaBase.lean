/- Contracts of the small functions. -/
import Derived.Test.YtobpeiimiglknaaCore
import Derived.Test.YtobpeiimiglknaaPlain
import Derived.Deep.QuietTactic
import Derived.BigQuiet
namespace Go.Proofs.Ytobpeiimiglknaa
open Go.RowKit

theorem i_within (n a b : Int) (W : World) : Calls Try.prog 42 #[.int .i64 n, .int .i64 a, .int .i64 b] W fun e W' => e = .returned (.bool (inB n a b)) ∧ W = W' := by
  by_cases h : a ≤ n <;> by_cases h' : n ≤ b
  all_goals
    go_enter Try.func42, Try.ntmps42
    go_wp2
    go_ret
    exact ⟨by simp [inB, h, h'], rfl⟩

theorem s_l00In (n a b : Int) (W : World) : Calls Try.prog 74 #[.int .i64 n, .int .i64 a, .int .i64 b] W fun e W' => e = .returned (.bool (inB n a b)) ∧ W = W' := by
  by_cases h : a ≤ n <;> by_cases h' : n ≤ b
  all_goals
    go_enter Try.func74, Try.ntmps74
    go_wp2
    go_ret
    exact ⟨by simp [inB, h, h'], rfl⟩

theorem i_isStore (n : Int) (W : World) : Calls Try.prog 87 #[.int .i64 n] W fun e W' => e = .returned (.bool (inB n (0) (10000000))) ∧ W = W' := by
  go_enter Try.func87, Try.ntmps87
  go_wp2_with (go_at_call 42; refine (i_within _ _ _ _).mono ?_; rintro e w' ⟨rfl, rfl⟩)
  go_ret
  exact ⟨rfl, rfl⟩

theorem i_isTank (n : Int) (W : World) : Calls Try.prog 80 #[.int .i64 n] W fun e W' => e = .returned (.bool (inB n (0) (20000))) ∧ W = W' := by
  go_enter Try.func80, Try.ntmps80
  go_wp2_with (go_at_call 42; refine (i_within _ _ _ _).mono ?_; rintro e w' ⟨rfl, rfl⟩)
  go_ret
  exact ⟨rfl, rfl⟩

theorem i_isArrival (n : Int) (W : World) : Calls Try.prog 89 #[.int .i64 n] W fun e W' => e = .returned (.bool (inB n (0) (1000))) ∧ W = W' := by
  go_enter Try.func89, Try.ntmps89
  go_wp2_with (go_at_call 42; refine (i_within _ _ _ _).mono ?_; rintro e w' ⟨rfl, rfl⟩)
  go_ret
  exact ⟨rfl, rfl⟩

theorem i_isQueue (n : Int) (W : World) : Calls Try.prog 53 #[.int .i64 n] W fun e W' => e = .returned (.bool (inB n (0) (100000))) ∧ W = W' := by
  go_enter Try.func53, Try.ntmps53
  go_wp2_with (go_at_call 42; refine (i_within _ _ _ _).mono ?_; rintro e w' ⟨rfl, rfl⟩)
  go_ret
  exact ⟨rfl, rfl⟩

theorem i_isSeats (n : Int) (W : World) : Calls Try.prog 46 #[.int .i64 n] W fun e W' => e = .returned (.bool (inB n (1) (1000))) ∧ W = W' := by
  go_enter Try.func46, Try.ntmps46
  go_wp2_with (go_at_call 42; refine (i_within _ _ _ _).mono ?_; rintro e w' ⟨rfl, rfl⟩)
  go_ret
  exact ⟨rfl, rfl⟩

theorem i_isEvery (n : Int) (W : World) : Calls Try.prog 45 #[.int .i64 n] W fun e W' => e = .returned (.bool (inB n (1) (60))) ∧ W = W' := by
  go_enter Try.func45, Try.ntmps45
  go_wp2_with (go_at_call 42; refine (i_within _ _ _ _).mono ?_; rintro e w' ⟨rfl, rfl⟩)
  go_ret
  exact ⟨rfl, rfl⟩

theorem i_isDayMinute (n : Int) (W : World) : Calls Try.prog 63 #[.int .i64 n] W fun e W' => e = .returned (.bool (inB n (0) (1440))) ∧ W = W' := by
  go_enter Try.func63, Try.ntmps63
  go_wp2_with (go_at_call 42; refine (i_within _ _ _ _).mono ?_; rintro e w' ⟨rfl, rfl⟩)
  go_ret
  exact ⟨rfl, rfl⟩

theorem i_isLoad (n : Int) (W : World) : Calls Try.prog 83 #[.int .i64 n] W fun e W' => e = .returned (.bool (inB n (0) (100000))) ∧ W = W' := by
  go_enter Try.func83, Try.ntmps83
  go_wp2_with (go_at_call 42; refine (i_within _ _ _ _).mono ?_; rintro e w' ⟨rfl, rfl⟩)
  go_ret
  exact ⟨rfl, rfl⟩

theorem i_isNeed (n : Int) (W : World) : Calls Try.prog 70 #[.int .i64 n] W fun e W' => e = .returned (.bool (inB n (0) (1000000))) ∧ W = W' := by
  go_enter Try.func70, Try.ntmps70
  go_wp2_with (go_at_call 42; refine (i_within _ _ _ _).mono ?_; rintro e w' ⟨rfl, rfl⟩)
  go_ret
  exact ⟨rfl, rfl⟩

theorem s_l16Litres (n : Int) (W : World) : Calls Try.prog 77 #[.int .i64 n] W fun e W' => e = .returned (.bool (inB n (0) (20000))) ∧ W = W' := by
  go_enter Try.func77, Try.ntmps77
  go_wp2_with (go_at_call 74; refine (s_l00In _ _ _ _).mono ?_; rintro e w' ⟨rfl, rfl⟩)
  go_ret
  exact ⟨rfl, rfl⟩

theorem s_l16Gap (n : Int) (W : World) : Calls Try.prog 72 #[.int .i64 n] W fun e W' => e = .returned (.bool (inB n (0) (1440))) ∧ W = W' := by
  go_enter Try.func72, Try.ntmps72
  go_wp2_with (go_at_call 74; refine (s_l00In _ _ _ _).mono ?_; rintro e w' ⟨rfl, rfl⟩)
  go_ret
  exact ⟨rfl, rfl⟩

theorem s_l20Every (n : Int) (W : World) : Calls Try.prog 76 #[.int .i64 n] W fun e W' => e = .returned (.bool (inB n (1) (60))) ∧ W = W' := by
  go_enter Try.func76, Try.ntmps76
  go_wp2_with (go_at_call 74; refine (s_l00In _ _ _ _).mono ?_; rintro e w' ⟨rfl, rfl⟩)
  go_ret
  exact ⟨rfl, rfl⟩

theorem s_l20Seats (n : Int) (W : World) : Calls Try.prog 39 #[.int .i64 n] W fun e W' => e = .returned (.bool (inB n (1) (1000))) ∧ W = W' := by
  go_enter Try.func39, Try.ntmps39
  go_wp2_with (go_at_call 74; refine (s_l00In _ _ _ _).mono ?_; rintro e w' ⟨rfl, rfl⟩)
  go_ret
  exact ⟨rfl, rfl⟩

theorem s_l20Limit (n : Int) (W : World) : Calls Try.prog 50 #[.int .i64 n] W fun e W' => e = .returned (.bool (inB n (0) (100000))) ∧ W = W' := by
  go_enter Try.func50, Try.ntmps50
  go_wp2_with (go_at_call 74; refine (s_l00In _ _ _ _).mono ?_; rintro e w' ⟨rfl, rfl⟩)
  go_ret
  exact ⟨rfl, rfl⟩

theorem s_l04Kilos (n : Int) (W : World) : Calls Try.prog 65 #[.int .i64 n] W fun e W' => e = .returned (.bool (inB n (0) (100000))) ∧ W = W' := by
  go_enter Try.func65, Try.ntmps65
  go_wp2_with (go_at_call 74; refine (s_l00In _ _ _ _).mono ?_; rintro e w' ⟨rfl, rfl⟩)
  go_ret
  exact ⟨rfl, rfl⟩

theorem s_l04Rides (n : Int) (W : World) : Calls Try.prog 67 #[.int .i64 n] W fun e W' => e = .returned (.bool (inB n (0) (1000000))) ∧ W = W' := by
  go_enter Try.func67, Try.ntmps67
  go_wp2_with (go_at_call 74; refine (s_l00In _ _ _ _).mono ?_; rintro e w' ⟨rfl, rfl⟩)
  go_ret
  exact ⟨rfl, rfl⟩

theorem i_abs_pos (n : Int) (W : World) (h : 0 ≤ n) : Calls Try.prog 93 #[.int .i64 n] W fun e W' => e = .returned (.int .i64 n) ∧ W = W' := by
  go_enter Try.func93, Try.ntmps93
  go_wp2
  go_ret
  exact ⟨rfl, rfl⟩

theorem i_abs_neg (n : Int) (W : World) (h : n < 0 ∧ -9223372036854775807 ≤ n) : Calls Try.prog 93 #[.int .i64 n] W fun e W' => e = .returned (.int .i64 (-n)) ∧ W = W' := by
  obtain ⟨h, h'⟩ := h
  go_enter Try.func93, Try.ntmps93
  go_wp2
  go_ret
  exact ⟨rfl, rfl⟩

theorem i_nearest_pos (a b : Int) (W : World) (ha : 0 ≤ a ∧ a ≤ 4611686018427387904 ∧ 1 ≤ b ∧ b ≤ 1152921504606846976) : Calls Try.prog 92 #[.int .i64 a, .int .i64 b] W fun e W' => e = .returned (.int .i64 (rnd a b)) ∧ ∃ m, W' = W.drewN m := by
  obtain ⟨ha, ha', hb, hb'⟩ := ha
  have h2 := Int.emod_nonneg a (show b ≠ 0 by omega)
  have h3 := Int.emod_lt_of_pos a (show 0 < b by omega)
  have h4 : 0 ≤ a / b := Int.ediv_nonneg ha (by omega)
  have h5 : a / b ≤ a := Int.ediv_le_self _ ha
  have d1 : decide (a < 0) = false := by simp; omega
  have d2 : decide (b < 0) = false := by simp; omega
  have HN := Lib.hid (near_pos ha hb)
  have hq : ∀ w, Calls Try.prog 93 #[.int .i64 (a % b)] w fun e W' => e = .returned (.int .i64 (a % b)) ∧ W' = w := fun w => (i_abs_pos (a % b) w (by omega)).mono fun _ _ ⟨he, hw⟩ => ⟨he, hw.symm⟩
  by_cases h : b - a % b ≤ a % b
  all_goals
    go_enter Try.func92, Try.ntmps92
    go_wp2_with (fail)
    go_quiet ((go_at_call 93; exact Calls.quiet_of_same (hq _)))
    clear hq
    go_wp2_with (first | (go_at_call 93; refine (i_abs_pos _ _ ?_).mono ?_; (omega); rintro e w' ⟨rfl, rfl⟩))
    go_ret
    exact ⟨by rw [← HN.out]; first | (rw [if_pos (by omega)]; rfl) | (rw [if_neg (by omega)]; rfl), _, rfl⟩

theorem i_nearest_neg (k b : Int) (W : World) (ha : 0 < k ∧ k ≤ 4611686018427387904 ∧ 1 ≤ b ∧ b ≤ 1152921504606846976) : Calls Try.prog 92 #[.int .i64 (-k), .int .i64 b] W fun e W' => e = .returned (.int .i64 (rnd (-k) b)) ∧ ∃ m, W' = W.drewN m := by
  obtain ⟨ha, ha', hb, hb'⟩ := ha
  have h2 := Int.emod_nonneg k (show b ≠ 0 by omega)
  have h3 := Int.emod_lt_of_pos k (show 0 < b by omega)
  have h4 : 0 ≤ k / b := Int.ediv_nonneg (by omega) (by omega)
  have h5 : k / b ≤ k := Int.ediv_le_self _ (by omega)
  have e1 : (-k).tdiv b = -(k / b) := by rw [Int.neg_tdiv, Int.tdiv_eq_ediv_of_nonneg (by omega)]
  have e2 : (-k).tmod b = -(k % b) := by rw [Int.neg_tmod, Int.tmod_eq_emod_of_nonneg (by omega)]
  have hr := rnd_neg (a := -k) (b := b) (by omega)
  rw [Int.neg_neg, ← near_pos (show 0 ≤ k by omega) hb] at hr
  have HN := Lib.hid hr
  clear hr
  have hd : IntKind.i64.wrap ((-k).tdiv b) = -(k / b) := by rw [e1]; exact IntWalk.i64_in _ (by omega)
  have d1 : decide (-k < 0) = true := by simp; omega
  have d2 : decide (b < 0) = false := by simp; omega
  have hq : ∀ w, Calls Try.prog 93 #[.int .i64 (-(k % b))] w fun e W' => e = .returned (.int .i64 (k % b)) ∧ W' = w := fun w => by
    by_cases h0 : k % b = 0
    · rw [h0]; exact (i_abs_pos 0 w (by omega)).mono fun _ _ ⟨he, hw⟩ => ⟨he, hw.symm⟩
    · exact (i_abs_neg (-(k % b)) w (by omega)).mono fun _ _ ⟨he, hw⟩ => ⟨by rw [he, Int.neg_neg], hw.symm⟩
  by_cases h : b - k % b ≤ k % b
  all_goals
    go_enter Try.func92, Try.ntmps92
    go_wp2_with (fail)
    go_quiet ((go_at_call 93; exact Calls.quiet_of_same (hq _)))
    clear hq
    go_wp2_with (first | (go_at_call 93; refine (i_abs_pos _ _ ?_).mono ?_; (omega); rintro e w' ⟨rfl, rfl⟩))
    go_ret
    exact ⟨by rw [HN.out]; first | (rw [if_pos (by omega)]; exact ret_int (show -(k / b) - 1 = -(k / b + 1) by generalize k / b = q; omega)) | (rw [if_neg (by omega)]; rfl), _, rfl⟩

theorem i_nearest (a b : Int) (W : World) (ha : -4611686018427387904 ≤ a ∧ a ≤ 4611686018427387904 ∧ 1 ≤ b ∧ b ≤ 1152921504606846976) : Calls Try.prog 92 #[.int .i64 a, .int .i64 b] W fun e W' => e = .returned (.int .i64 (rnd a b)) ∧ ∃ m, W' = W.drewN m := by
  by_cases h : 0 ≤ a
  · exact i_nearest_pos a b W (by omega)
  · have := i_nearest_neg (-a) b W (by omega)
    rw [Int.neg_neg] at this
    exact this

theorem s_l01Div (a b : Int) (W : World) (ha : -1152921504606846976 ≤ a ∧ a ≤ 1152921504606846976 ∧ 1 ≤ b ∧ b ≤ 1152921504606846976) : Calls Try.prog 91 #[.int .i64 a, .int .i64 b] W fun e W' => e = .returned (.int .i64 (rnd a b)) ∧ W = W' := by
  obtain ⟨ha, ha', hb, hb'⟩ := ha
  by_cases h : a < 0
  · have hd : 0 ≤ (b - 2 * a) / (2 * b) := Int.ediv_nonneg (by omega) (by omega)
    have hd' : (b - 2 * a) / (2 * b) ≤ b - 2 * a := Int.ediv_le_self _ (by omega)
    go_enter Try.func91, Try.ntmps91
    go_wp2
    go_ret
    exact ⟨by simp [rnd, h], rfl⟩
  · have h0 : 0 ≤ a := by omega
    go_enter Try.func91, Try.ntmps91
    go_wp2
    go_ret
    exact ⟨by unfold rnd; rw [if_neg (by omega)]; rfl, rfl⟩

theorem s_l00Min (a b : Int) (W : World) : Calls Try.prog 40 #[.int .i64 a, .int .i64 b] W fun e W' => e = .returned (.int .i64 (min a b)) ∧ W = W' := by
  by_cases h : a < b
  all_goals
    go_enter Try.func40, Try.ntmps40
    go_wp2
    go_ret
    exact ⟨ret_int (by omega), rfl⟩

theorem s_l00Max (a b : Int) (W : World) : Calls Try.prog 48 #[.int .i64 a, .int .i64 b] W fun e W' => e = .returned (.int .i64 (max a b)) ∧ W = W' := by
  by_cases h : b < a
  all_goals
    go_enter Try.func48, Try.ntmps48
    go_wp2
    go_ret
    exact ⟨ret_int (by omega), rfl⟩

theorem s_l00Max_r (a b : Int) (W : World) (h : a ≤ b) : Calls Try.prog 48 #[.int .i64 a, .int .i64 b] W fun e W' => e = .returned (.int .i64 b) ∧ W = W' :=
  (s_l00Max a b W).mono fun _ _ ⟨he, hw⟩ => ⟨by rw [he]; exact ret_int (by omega), hw⟩

theorem s_l00Max_l (a b : Int) (W : World) (h : b ≤ a) : Calls Try.prog 48 #[.int .i64 a, .int .i64 b] W fun e W' => e = .returned (.int .i64 a) ∧ W = W' :=
  (s_l00Max a b W).mono fun _ _ ⟨he, hw⟩ => ⟨by rw [he]; exact ret_int (by omega), hw⟩

end Go.Proofs.Ytobpeiimiglknaa
