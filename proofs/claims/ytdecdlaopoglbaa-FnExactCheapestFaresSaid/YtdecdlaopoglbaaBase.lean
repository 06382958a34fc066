/- Contracts of the small functions. -/
import Derived.Test.YtdecdlaopoglbaaCore
import Derived.Test.YtdecdlaopoglbaaPlain
import Derived.Deep.QuietTactic
import Derived.BigQuiet
namespace Go.Proofs.Ytdecdlaopoglbaa
open Go.RowKit

theorem i_within (n a b : Int) (W : World) : Calls Try.prog 36 #[.int .i64 n, .int .i64 a, .int .i64 b] W fun e W' => e = .returned (.bool (inB n a b)) ∧ W = W' := by
  by_cases h : a ≤ n <;> by_cases h' : n ≤ b
  all_goals
    go_enter Try.func36, Try.ntmps36
    go_wp2
    go_ret
    exact ⟨by simp [inB, h, h'], rfl⟩

theorem s_l00In (n a b : Int) (W : World) : Calls Try.prog 50 #[.int .i64 n, .int .i64 a, .int .i64 b] W fun e W' => e = .returned (.bool (inB n a b)) ∧ W = W' := by
  by_cases h : a ≤ n <;> by_cases h' : n ≤ b
  all_goals
    go_enter Try.func50, Try.ntmps50
    go_wp2
    go_ret
    exact ⟨by simp [inB, h, h'], rfl⟩

theorem i_isDay (n : Int) (W : World) : Calls Try.prog 35 #[.int .i64 n] W fun e W' => e = .returned (.bool (inB n (0) (36524))) ∧ W = W' := by
  go_enter Try.func35, Try.ntmps35
  go_wp2_with (go_at_call 36; refine (i_within _ _ _ _).mono ?_; rintro e w' ⟨rfl, rfl⟩)
  go_ret
  exact ⟨rfl, rfl⟩

theorem s_l02Day (n : Int) (W : World) : Calls Try.prog 41 #[.int .i64 n] W fun e W' => e = .returned (.bool (inB n (0) (36524))) ∧ W = W' := by
  go_enter Try.func41, Try.ntmps41
  go_wp2_with (go_at_call 50; refine (s_l00In _ _ _ _).mono ?_; rintro e w' ⟨rfl, rfl⟩)
  go_ret
  exact ⟨rfl, rfl⟩

end Go.Proofs.Ytdecdlaopoglbaa
