/- Contracts of the small functions. -/
import Derived.Test.YtcbceodlakbpdaaCore
import Derived.Test.YtcbceodlakbpdaaPlain
import Derived.Deep.QuietTactic
import Derived.BigQuiet
namespace Go.Proofs.Ytcbceodlakbpdaa
open Go.RowKit

theorem i_within (n a b : Int) (W : World) : Calls Try.prog 53 #[.int .i64 n, .int .i64 a, .int .i64 b] W fun e W' => e = .returned (.bool (inB n a b)) ∧ W = W' := by
  by_cases h : a ≤ n <;> by_cases h' : n ≤ b
  all_goals
    go_enter Try.func53, Try.ntmps53
    go_wp2
    go_ret
    exact ⟨by simp [inB, h, h'], rfl⟩

theorem s_l00In (n a b : Int) (W : World) : Calls Try.prog 50 #[.int .i64 n, .int .i64 a, .int .i64 b] W fun e W' => e = .returned (.bool (inB n a b)) ∧ W = W' := by
  by_cases h : a ≤ n <;> by_cases h' : n ≤ b
  all_goals
    go_enter Try.func50, Try.ntmps50
    go_wp2
    go_ret
    exact ⟨by simp [inB, h, h'], rfl⟩

theorem i_isDayMinute (n : Int) (W : World) : Calls Try.prog 47 #[.int .i64 n] W fun e W' => e = .returned (.bool (inB n (0) (1440))) ∧ W = W' := by
  go_enter Try.func47, Try.ntmps47
  go_wp2_with (go_at_call 53; refine (i_within _ _ _ _).mono ?_; rintro e w' ⟨rfl, rfl⟩)
  go_ret
  exact ⟨rfl, rfl⟩

theorem s_l19Minute (n : Int) (W : World) : Calls Try.prog 51 #[.int .i64 n] W fun e W' => e = .returned (.bool (inB n (0) (1440))) ∧ W = W' := by
  go_enter Try.func51, Try.ntmps51
  go_wp2_with (go_at_call 50; refine (s_l00In _ _ _ _).mono ?_; rintro e w' ⟨rfl, rfl⟩)
  go_ret
  exact ⟨rfl, rfl⟩

theorem i_isSpan (a b : Int) (W : World) : Calls Try.prog 60 #[.int .i64 a, .int .i64 b] W fun e W' => e = .returned (.bool (vSpan a b)) ∧ W = W' := by
  rcases vSpan_cases a b with ⟨h1, HV⟩ | ⟨h1, h2, HV⟩ | ⟨h1, h2, HV⟩
  all_goals
    go_enter Try.func60, Try.ntmps60
    go_wp2_with (go_at_call 47; refine (i_isDayMinute _ _).mono ?_; rintro e w' ⟨rfl, rfl⟩)
    go_ret
    exact ⟨by rw [HV.out]; rfl, rfl⟩

end Go.Proofs.Ytcbceodlakbpdaa
