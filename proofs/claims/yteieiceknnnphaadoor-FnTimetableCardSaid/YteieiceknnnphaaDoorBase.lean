/- Contracts of the small functions. -/
import Derived.Test.YteieiceknnnphaaDoorCore
import Derived.Test.YteieiceknnnphaaDoorPlain
import Derived.Deep.QuietTactic
import Derived.BigQuiet
namespace Go.Proofs.YteieiceknnnphaaDoor
open Go.RowKit

theorem i_within (n a b : Int) (W : World) : Calls Tryd.prog 27 #[.int .i64 n, .int .i64 a, .int .i64 b] W fun e W' => e = .returned (.bool (inB n a b)) ∧ W = W' := by
  by_cases h : a ≤ n <;> by_cases h' : n ≤ b
  all_goals
    go_enter Tryd.func27, Tryd.ntmps27
    go_wp2
    go_ret
    exact ⟨by simp [inB, h, h'], rfl⟩

theorem i_isDayMinute (n : Int) (W : World) : Calls Tryd.prog 20 #[.int .i64 n] W fun e W' => e = .returned (.bool (inB n (0) (1440))) ∧ W = W' := by
  go_enter Tryd.func20, Tryd.ntmps20
  go_wp2_with (go_at_call 27; refine (i_within _ _ _ _).mono ?_; rintro e w' ⟨rfl, rfl⟩)
  go_ret
  exact ⟨rfl, rfl⟩

theorem i_isSpan (a b : Int) (W : World) : Calls Tryd.prog 26 #[.int .i64 a, .int .i64 b] W fun e W' => e = .returned (.bool (vSpan a b)) ∧ W = W' := by
  rcases vSpan_cases a b with ⟨h1, HV⟩ | ⟨h1, h2, HV⟩ | ⟨h1, h2, HV⟩
  all_goals
    go_enter Tryd.func26, Tryd.ntmps26
    go_wp2_with (go_at_call 20; refine (i_isDayMinute _ _).mono ?_; rintro e w' ⟨rfl, rfl⟩)
    go_ret
    exact ⟨by rw [HV.out]; rfl, rfl⟩

end Go.Proofs.YteieiceknnnphaaDoor
