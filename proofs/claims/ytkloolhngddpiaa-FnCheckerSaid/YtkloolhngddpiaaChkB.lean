/- The controller's small functions: contracts at states as numbers. -/
import Derived.Test.YtkloolhngddpiaaChkA
import Derived.Test.YtkloolhngddpiaaAggs
import Derived.Test.YtkloolhngddpiaaOpen
import Derived.Deep.QuietTactic
import Derived.BigQuiet
namespace Go.Proofs.Ytkloolhngddpiaa
open Go.RowKit Go.Deep
set_option linter.unusedVariables false
set_option maxRecDepth 100000

set_option maxHeartbeats 12800000 in
theorem s_l13Next_at (m : Nat) (o a b e : Bool) (k : Nat) (W : World) (hm : m < 5) (hk : k < 9) :
    Calls Try.prog 104 #[.agg #[.int .i64 (m : Nat), .bool o, .bool a, .bool b, .bool e], .int .i64 ((k : Nat) + 1)] W fun en W' => en = .returned (.tuple #[sv (cond (alN m o a b e (k + 1)) (nxN m o a b e (k + 1)) (enc m o a b e)), .bool (alN m o a b e (k + 1))]) ∧ Below W.heap.size W W' := by
  rcases (show m = 0 ∨ m = 1 ∨ m = 2 ∨ m = 3 ∨ m = 4 by omega) with rfl | rfl | rfl | rfl | rfl
  all_goals
    rcases (show k = 0 ∨ k = 1 ∨ k = 2 ∨ k = 3 ∨ k = 4 ∨ k = 5 ∨ k = 6 ∨ k = 7 ∨ k = 8 by omega) with rfl | rfl | rfl | rfl | rfl | rfl | rfl | rfl | rfl
    all_goals
      clear hm hk
      go_enter Try.func104, Try.ntmps104
      go_wp2
      all_goals
        refine bodyPost_ret (v := .tuple #[.agg #[_, _, _, _, _], _]) (by simp [results, go_sem]; exact ⟨⟨rfl, rfl, rfl, rfl, rfl⟩, rfl⟩) rfl ⟨?_, kept_alloc (kept_alloc (Below.refl _ _) _) _⟩
        cases o <;> cases a <;> cases b <;> cases e <;> first | contradiction | rfl

end Go.Proofs.Ytkloolhngddpiaa
