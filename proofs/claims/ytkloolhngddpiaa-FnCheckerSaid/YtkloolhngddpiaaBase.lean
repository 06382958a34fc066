/- Contracts of the small functions. -/
import Derived.Test.YtkloolhngddpiaaCore
import Derived.Test.YtkloolhngddpiaaPlain
import Derived.Deep.QuietTactic
import Derived.BigQuiet
namespace Go.Proofs.Ytkloolhngddpiaa
open Go.RowKit

theorem i_within (n a b : Int) (W : World) : Calls Try.prog 70 #[.int .i64 n, .int .i64 a, .int .i64 b] W fun e W' => e = .returned (.bool (inB n a b)) ∧ W = W' := by
  by_cases h : a ≤ n <;> by_cases h' : n ≤ b
  all_goals
    go_enter Try.func70, Try.ntmps70
    go_wp2
    go_ret
    exact ⟨by simp [inB, h, h'], rfl⟩

theorem s_l00In (n a b : Int) (W : World) : Calls Try.prog 109 #[.int .i64 n, .int .i64 a, .int .i64 b] W fun e W' => e = .returned (.bool (inB n a b)) ∧ W = W' := by
  by_cases h : a ≤ n <;> by_cases h' : n ≤ b
  all_goals
    go_enter Try.func109, Try.ntmps109
    go_wp2
    go_ret
    exact ⟨by simp [inB, h, h'], rfl⟩

theorem i_isDay (n : Int) (W : World) : Calls Try.prog 69 #[.int .i64 n] W fun e W' => e = .returned (.bool (inB n (0) (36524))) ∧ W = W' := by
  go_enter Try.func69, Try.ntmps69
  go_wp2_with (go_at_call 70; refine (i_within _ _ _ _).mono ?_; rintro e w' ⟨rfl, rfl⟩)
  go_ret
  exact ⟨rfl, rfl⟩

theorem i_isMode (n : Int) (W : World) : Calls Try.prog 116 #[.int .i64 n] W fun e W' => e = .returned (.bool (inB n (0) (4))) ∧ W = W' := by
  go_enter Try.func116, Try.ntmps116
  go_wp2_with (go_at_call 70; refine (i_within _ _ _ _).mono ?_; rintro e w' ⟨rfl, rfl⟩)
  go_ret
  exact ⟨rfl, rfl⟩

theorem s_l02Day (n : Int) (W : World) : Calls Try.prog 75 #[.int .i64 n] W fun e W' => e = .returned (.bool (inB n (0) (36524))) ∧ W = W' := by
  go_enter Try.func75, Try.ntmps75
  go_wp2_with (go_at_call 109; refine (s_l00In _ _ _ _).mono ?_; rintro e w' ⟨rfl, rfl⟩)
  go_ret
  exact ⟨rfl, rfl⟩

end Go.Proofs.Ytkloolhngddpiaa
