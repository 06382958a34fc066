/- Contracts of the small functions. -/
import Derived.Test.YtjoomijbbiageaaDoorCore
import Derived.Test.YtjoomijbbiageaaDoorPlain
import Derived.Deep.QuietTactic
import Derived.BigQuiet
namespace Go.Proofs.YtjoomijbbiageaaDoor
open Go.RowKit

theorem i_within (n a b : Int) (W : World) : Calls Tryd.prog 20 #[.int .i64 n, .int .i64 a, .int .i64 b] W fun e W' => e = .returned (.bool (inB n a b)) ∧ W = W' := by
  by_cases h : a ≤ n <;> by_cases h' : n ≤ b
  all_goals
    go_enter Tryd.func20, Tryd.ntmps20
    go_wp2
    go_ret
    exact ⟨by simp [inB, h, h'], rfl⟩

theorem s_l00In (n a b : Int) (W : World) : Calls Tryd.prog 15 #[.int .i64 n, .int .i64 a, .int .i64 b] W fun e W' => e = .returned (.bool (inB n a b)) ∧ W = W' := by
  by_cases h : a ≤ n <;> by_cases h' : n ≤ b
  all_goals
    go_enter Tryd.func15, Tryd.ntmps15
    go_wp2
    go_ret
    exact ⟨by simp [inB, h, h'], rfl⟩

theorem i_isDay (n : Int) (W : World) : Calls Tryd.prog 19 #[.int .i64 n] W fun e W' => e = .returned (.bool (inB n (0) (36524))) ∧ W = W' := by
  go_enter Tryd.func19, Tryd.ntmps19
  go_wp2_with (go_at_call 20; refine (i_within _ _ _ _).mono ?_; rintro e w' ⟨rfl, rfl⟩)
  go_ret
  exact ⟨rfl, rfl⟩

theorem s_l02Day (n : Int) (W : World) : Calls Tryd.prog 14 #[.int .i64 n] W fun e W' => e = .returned (.bool (inB n (0) (36524))) ∧ W = W' := by
  go_enter Tryd.func14, Tryd.ntmps14
  go_wp2_with (go_at_call 15; refine (s_l00In _ _ _ _).mono ?_; rintro e w' ⟨rfl, rfl⟩)
  go_ret
  exact ⟨rfl, rfl⟩

end Go.Proofs.YtjoomijbbiageaaDoor
