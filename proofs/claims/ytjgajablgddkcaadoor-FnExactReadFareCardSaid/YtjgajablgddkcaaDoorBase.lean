/- Contracts of the small functions. -/
import Derived.Test.YtjgajablgddkcaaDoorCore
import Derived.Test.YtjgajablgddkcaaDoorPlain
import Derived.Deep.QuietTactic
import Derived.BigQuiet
namespace Go.Proofs.YtjgajablgddkcaaDoor
open Go.RowKit

theorem i_within (n a b : Int) (W : World) : Calls Tryd.prog 43 #[.int .i64 n, .int .i64 a, .int .i64 b] W fun e W' => e = .returned (.bool (inB n a b)) ∧ W = W' := by
  by_cases h : a ≤ n <;> by_cases h' : n ≤ b
  all_goals
    go_enter Tryd.func43, Tryd.ntmps43
    go_wp2
    go_ret
    exact ⟨by simp [inB, h, h'], rfl⟩

theorem s_l00In (n a b : Int) (W : World) : Calls Tryd.prog 37 #[.int .i64 n, .int .i64 a, .int .i64 b] W fun e W' => e = .returned (.bool (inB n a b)) ∧ W = W' := by
  by_cases h : a ≤ n <;> by_cases h' : n ≤ b
  all_goals
    go_enter Tryd.func37, Tryd.ntmps37
    go_wp2
    go_ret
    exact ⟨by simp [inB, h, h'], rfl⟩

theorem i_isKilos (n : Int) (W : World) : Calls Tryd.prog 62 #[.int .i64 n] W fun e W' => e = .returned (.bool (inB n (0) (100000))) ∧ W = W' := by
  go_enter Tryd.func62, Tryd.ntmps62
  go_wp2_with (go_at_call 43; refine (i_within _ _ _ _).mono ?_; rintro e w' ⟨rfl, rfl⟩)
  go_ret
  exact ⟨rfl, rfl⟩

theorem i_isStore (n : Int) (W : World) : Calls Tryd.prog 46 #[.int .i64 n] W fun e W' => e = .returned (.bool (inB n (0) (10000000))) ∧ W = W' := by
  go_enter Tryd.func46, Tryd.ntmps46
  go_wp2_with (go_at_call 43; refine (i_within _ _ _ _).mono ?_; rintro e w' ⟨rfl, rfl⟩)
  go_ret
  exact ⟨rfl, rfl⟩

theorem i_isDayMinute (n : Int) (W : World) : Calls Tryd.prog 42 #[.int .i64 n] W fun e W' => e = .returned (.bool (inB n (0) (1440))) ∧ W = W' := by
  go_enter Tryd.func42, Tryd.ntmps42
  go_wp2_with (go_at_call 43; refine (i_within _ _ _ _).mono ?_; rintro e w' ⟨rfl, rfl⟩)
  go_ret
  exact ⟨rfl, rfl⟩

theorem i_isValue (n : Int) (W : World) : Calls Tryd.prog 65 #[.int .i64 n] W fun e W' => e = .returned (.bool (inB n (-1000000000000) (1000000000000))) ∧ W = W' := by
  go_enter Tryd.func65, Tryd.ntmps65
  go_wp2_with (go_at_call 43; refine (i_within _ _ _ _).mono ?_; rintro e w' ⟨rfl, rfl⟩)
  go_ret
  exact ⟨rfl, rfl⟩

theorem s_l19Minute (n : Int) (W : World) : Calls Tryd.prog 36 #[.int .i64 n] W fun e W' => e = .returned (.bool (inB n (0) (1440))) ∧ W = W' := by
  go_enter Tryd.func36, Tryd.ntmps36
  go_wp2_with (go_at_call 37; refine (s_l00In _ _ _ _).mono ?_; rintro e w' ⟨rfl, rfl⟩)
  go_ret
  exact ⟨rfl, rfl⟩

end Go.Proofs.YtjgajablgddkcaaDoor
