/- Contracts of the small functions. -/
import Derived.Test.YtmgbbfbalmlpiaaGreatDoorCore
import Derived.Test.YtmgbbfbalmlpiaaGreatDoorPlain
import Derived.Deep.QuietTactic
import Derived.BigQuiet
namespace Go.Proofs.YtmgbbfbalmlpiaaGreatDoor
open Go.RowKit

theorem i_within (n a b : Int) (W : World) : Calls Tryz.prog 42 #[.int .i64 n, .int .i64 a, .int .i64 b] W fun e W' => e = .returned (.bool (inB n a b)) ∧ W = W' := by
  by_cases h : a ≤ n <;> by_cases h' : n ≤ b
  all_goals
    go_enter Tryz.func42, Tryz.ntmps42
    go_wp2
    go_ret
    exact ⟨by simp [inB, h, h'], rfl⟩

theorem s_l00In (n a b : Int) (W : World) : Calls Tryz.prog 47 #[.int .i64 n, .int .i64 a, .int .i64 b] W fun e W' => e = .returned (.bool (inB n a b)) ∧ W = W' := by
  by_cases h : a ≤ n <;> by_cases h' : n ≤ b
  all_goals
    go_enter Tryz.func47, Tryz.ntmps47
    go_wp2
    go_ret
    exact ⟨by simp [inB, h, h'], rfl⟩

theorem i_isStore (n : Int) (W : World) : Calls Tryz.prog 46 #[.int .i64 n] W fun e W' => e = .returned (.bool (inB n (0) (10000000))) ∧ W = W' := by
  go_enter Tryz.func46, Tryz.ntmps46
  go_wp2_with (go_at_call 42; refine (i_within _ _ _ _).mono ?_; rintro e w' ⟨rfl, rfl⟩)
  go_ret
  exact ⟨rfl, rfl⟩

theorem i_isTank (n : Int) (W : World) : Calls Tryz.prog 24 #[.int .i64 n] W fun e W' => e = .returned (.bool (inB n (0) (20000))) ∧ W = W' := by
  go_enter Tryz.func24, Tryz.ntmps24
  go_wp2_with (go_at_call 42; refine (i_within _ _ _ _).mono ?_; rintro e w' ⟨rfl, rfl⟩)
  go_ret
  exact ⟨rfl, rfl⟩

theorem i_isLoad (n : Int) (W : World) : Calls Tryz.prog 41 #[.int .i64 n] W fun e W' => e = .returned (.bool (inB n (0) (100000))) ∧ W = W' := by
  go_enter Tryz.func41, Tryz.ntmps41
  go_wp2_with (go_at_call 42; refine (i_within _ _ _ _).mono ?_; rintro e w' ⟨rfl, rfl⟩)
  go_ret
  exact ⟨rfl, rfl⟩

theorem i_isNeed (n : Int) (W : World) : Calls Tryz.prog 22 #[.int .i64 n] W fun e W' => e = .returned (.bool (inB n (0) (1000000))) ∧ W = W' := by
  go_enter Tryz.func22, Tryz.ntmps22
  go_wp2_with (go_at_call 42; refine (i_within _ _ _ _).mono ?_; rintro e w' ⟨rfl, rfl⟩)
  go_ret
  exact ⟨rfl, rfl⟩

theorem i_isValue (n : Int) (W : World) : Calls Tryz.prog 51 #[.int .i64 n] W fun e W' => e = .returned (.bool (inB n (-1000000000000) (1000000000000))) ∧ W = W' := by
  go_enter Tryz.func51, Tryz.ntmps51
  go_wp2_with (go_at_call 42; refine (i_within _ _ _ _).mono ?_; rintro e w' ⟨rfl, rfl⟩)
  go_ret
  exact ⟨rfl, rfl⟩

theorem s_l04Kilos (n : Int) (W : World) : Calls Tryz.prog 30 #[.int .i64 n] W fun e W' => e = .returned (.bool (inB n (0) (100000))) ∧ W = W' := by
  go_enter Tryz.func30, Tryz.ntmps30
  go_wp2_with (go_at_call 47; refine (s_l00In _ _ _ _).mono ?_; rintro e w' ⟨rfl, rfl⟩)
  go_ret
  exact ⟨rfl, rfl⟩

theorem s_l04Rides (n : Int) (W : World) : Calls Tryz.prog 32 #[.int .i64 n] W fun e W' => e = .returned (.bool (inB n (0) (1000000))) ∧ W = W' := by
  go_enter Tryz.func32, Tryz.ntmps32
  go_wp2_with (go_at_call 47; refine (s_l00In _ _ _ _).mono ?_; rintro e w' ⟨rfl, rfl⟩)
  go_ret
  exact ⟨rfl, rfl⟩

theorem i_abs_pos (n : Int) (W : World) (h : 0 ≤ n) : Calls Tryz.prog 55 #[.int .i64 n] W fun e W' => e = .returned (.int .i64 n) ∧ W = W' := by
  go_enter Tryz.func55, Tryz.ntmps55
  go_wp2
  go_ret
  exact ⟨rfl, rfl⟩

theorem i_abs_neg (n : Int) (W : World) (h : n < 0 ∧ -9223372036854775807 ≤ n) : Calls Tryz.prog 55 #[.int .i64 n] W fun e W' => e = .returned (.int .i64 (-n)) ∧ W = W' := by
  obtain ⟨h, h'⟩ := h
  go_enter Tryz.func55, Tryz.ntmps55
  go_wp2
  go_ret
  exact ⟨rfl, rfl⟩

theorem i_nearest_pos (a b : Int) (W : World) (ha : 0 ≤ a ∧ a ≤ 4611686018427387904 ∧ 1 ≤ b ∧ b ≤ 1152921504606846976) : Calls Tryz.prog 45 #[.int .i64 a, .int .i64 b] W fun e W' => e = .returned (.int .i64 (rnd a b)) ∧ ∃ m, W' = W.drewN m := by
  obtain ⟨ha, ha', hb, hb'⟩ := ha
  have h2 := Int.emod_nonneg a (show b ≠ 0 by omega)
  have h3 := Int.emod_lt_of_pos a (show 0 < b by omega)
  have h4 : 0 ≤ a / b := Int.ediv_nonneg ha (by omega)
  have h5 : a / b ≤ a := Int.ediv_le_self _ ha
  have d1 : decide (a < 0) = false := by simp; omega
  have d2 : decide (b < 0) = false := by simp; omega
  have HN := Lib.hid (near_pos ha hb)
  have hq : ∀ w, Calls Tryz.prog 55 #[.int .i64 (a % b)] w fun e W' => e = .returned (.int .i64 (a % b)) ∧ W' = w := fun w => (i_abs_pos (a % b) w (by omega)).mono fun _ _ ⟨he, hw⟩ => ⟨he, hw.symm⟩
  by_cases h : b - a % b ≤ a % b
  all_goals
    go_enter Tryz.func45, Tryz.ntmps45
    go_wp2_with (fail)
    go_quiet ((go_at_call 55; exact Calls.quiet_of_same (hq _)))
    clear hq
    go_wp2_with (first | (go_at_call 55; refine (i_abs_pos _ _ ?_).mono ?_; (omega); rintro e w' ⟨rfl, rfl⟩))
    go_ret
    exact ⟨by rw [← HN.out]; first | (rw [if_pos (by omega)]; rfl) | (rw [if_neg (by omega)]; rfl), _, rfl⟩

theorem i_nearest_neg (k b : Int) (W : World) (ha : 0 < k ∧ k ≤ 4611686018427387904 ∧ 1 ≤ b ∧ b ≤ 1152921504606846976) : Calls Tryz.prog 45 #[.int .i64 (-k), .int .i64 b] W fun e W' => e = .returned (.int .i64 (rnd (-k) b)) ∧ ∃ m, W' = W.drewN m := by
  obtain ⟨ha, ha', hb, hb'⟩ := ha
  have h2 := Int.emod_nonneg k (show b ≠ 0 by omega)
  have h3 := Int.emod_lt_of_pos k (show 0 < b by omega)
  have h4 : 0 ≤ k / b := Int.ediv_nonneg (by omega) (by omega)
  have h5 : k / b ≤ k := Int.ediv_le_self _ (by omega)
  have e1 : (-k).tdiv b = -(k / b) := by rw [Int.neg_tdiv, Int.tdiv_eq_ediv_of_nonneg (by omega)]
  have e2 : (-k).tmod b = -(k % b) := by rw [Int.neg_tmod, Int.tmod_eq_emod_of_nonneg (by omega)]
  have hr := rnd_neg (a := -k) (b := b) (by omega)
  rw [Int.neg_neg, ← near_pos (show 0 ≤ k by omega) hb] at hr
  have HN := Lib.hid hr
  clear hr
  have hd : IntKind.i64.wrap ((-k).tdiv b) = -(k / b) := by rw [e1]; exact IntWalk.i64_in _ (by omega)
  have d1 : decide (-k < 0) = true := by simp; omega
  have d2 : decide (b < 0) = false := by simp; omega
  have hq : ∀ w, Calls Tryz.prog 55 #[.int .i64 (-(k % b))] w fun e W' => e = .returned (.int .i64 (k % b)) ∧ W' = w := fun w => by
    by_cases h0 : k % b = 0
    · rw [h0]; exact (i_abs_pos 0 w (by omega)).mono fun _ _ ⟨he, hw⟩ => ⟨he, hw.symm⟩
    · exact (i_abs_neg (-(k % b)) w (by omega)).mono fun _ _ ⟨he, hw⟩ => ⟨by rw [he, Int.neg_neg], hw.symm⟩
  by_cases h : b - k % b ≤ k % b
  all_goals
    go_enter Tryz.func45, Tryz.ntmps45
    go_wp2_with (fail)
    go_quiet ((go_at_call 55; exact Calls.quiet_of_same (hq _)))
    clear hq
    go_wp2_with (first | (go_at_call 55; refine (i_abs_pos _ _ ?_).mono ?_; (omega); rintro e w' ⟨rfl, rfl⟩))
    go_ret
    exact ⟨by rw [HN.out]; first | (rw [if_pos (by omega)]; exact ret_int (show -(k / b) - 1 = -(k / b + 1) by generalize k / b = q; omega)) | (rw [if_neg (by omega)]; rfl), _, rfl⟩

theorem i_nearest (a b : Int) (W : World) (ha : -4611686018427387904 ≤ a ∧ a ≤ 4611686018427387904 ∧ 1 ≤ b ∧ b ≤ 1152921504606846976) : Calls Tryz.prog 45 #[.int .i64 a, .int .i64 b] W fun e W' => e = .returned (.int .i64 (rnd a b)) ∧ ∃ m, W' = W.drewN m := by
  by_cases h : 0 ≤ a
  · exact i_nearest_pos a b W (by omega)
  · have := i_nearest_neg (-a) b W (by omega)
    rw [Int.neg_neg] at this
    exact this

theorem s_l01Div (a b : Int) (W : World) (ha : -1152921504606846976 ≤ a ∧ a ≤ 1152921504606846976 ∧ 1 ≤ b ∧ b ≤ 1152921504606846976) : Calls Tryz.prog 56 #[.int .i64 a, .int .i64 b] W fun e W' => e = .returned (.int .i64 (rnd a b)) ∧ W = W' := by
  obtain ⟨ha, ha', hb, hb'⟩ := ha
  by_cases h : a < 0
  · have hd : 0 ≤ (b - 2 * a) / (2 * b) := Int.ediv_nonneg (by omega) (by omega)
    have hd' : (b - 2 * a) / (2 * b) ≤ b - 2 * a := Int.ediv_le_self _ (by omega)
    go_enter Tryz.func56, Tryz.ntmps56
    go_wp2
    go_ret
    exact ⟨by simp [rnd, h], rfl⟩
  · have h0 : 0 ≤ a := by omega
    go_enter Tryz.func56, Tryz.ntmps56
    go_wp2
    go_ret
    exact ⟨by unfold rnd; rw [if_neg (by omega)]; rfl, rfl⟩

theorem i_ceilDiv (a b : Int) (W : World) (h : 0 ≤ a ∧ a ≤ 1152921504606846976 ∧ 1 ≤ b ∧ b ≤ 1152921504606846976) : Calls Tryz.prog 25 #[.int .i64 a, .int .i64 b] W fun e W' => e = .returned (.int .i64 ((a + b - 1) / b)) ∧ W = W' := by
  obtain ⟨ha, ha', hb, hb'⟩ := h
  go_enter Tryz.func25, Tryz.ntmps25
  go_wp2
  go_ret
  exact ⟨rfl, rfl⟩

end Go.Proofs.YtmgbbfbalmlpiaaGreatDoor
