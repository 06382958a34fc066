/- The controller's small functions: contracts at states as numbers. -/
import Derived.Test.YtkloolhngddpiaaChkP
import Derived.Test.YtkloolhngddpiaaAggs
import Derived.Test.YtkloolhngddpiaaOpen
import Derived.Deep.QuietTactic
import Derived.BigQuiet
namespace Go.Proofs.Ytkloolhngddpiaa
open Go.RowKit Go.Deep
set_option linter.unusedVariables false
set_option maxRecDepth 100000

/-- A state's value. -/
def sv (c : Nat) : Value := .agg #[.int .i64 (cm c : Nat), .bool (co c), .bool (ca c), .bool (cb c), .bool (ce c)]

set_option maxHeartbeats 6400000 in
theorem i_isAllowed_at (m : Nat) (o a b e : Bool) (k : Nat) (W : World) (hm : m < 5) (hk : k < 9) :
    Calls Try.prog 127 #[.agg #[.int .i64 (m : Nat), .bool o, .bool a, .bool b, .bool e], .int .i64 ((k : Nat) + 1)] W fun en W' => en = .returned (.bool (alN m o a b e (k + 1))) ∧ Below W.heap.size W W' := by
  rcases (show m = 0 ∨ m = 1 ∨ m = 2 ∨ m = 3 ∨ m = 4 by omega) with rfl | rfl | rfl | rfl | rfl
  all_goals
    rcases (show k = 0 ∨ k = 1 ∨ k = 2 ∨ k = 3 ∨ k = 4 ∨ k = 5 ∨ k = 6 ∨ k = 7 ∨ k = 8 by omega) with rfl | rfl | rfl | rfl | rfl | rfl | rfl | rfl | rfl
    all_goals
      clear hm hk
      go_enter Try.func127, Try.ntmps127
      go_wp2
      all_goals
        go_ret
        refine ⟨ret_bool ?_, kept_alloc (Below.refl _ _) _⟩
        first | rfl | (cases o <;> cases a <;> cases b <;> cases e <;> first | rfl | (simp_all; done))

set_option maxHeartbeats 6400000 in
theorem i_after_at (m : Nat) (o a b e : Bool) (k : Nat) (W : World) (hm : m < 5) (hk : k < 9) :
    Calls Try.prog 118 #[.agg #[.int .i64 (m : Nat), .bool o, .bool a, .bool b, .bool e], .int .i64 ((k : Nat) + 1)] W fun en W' => en = .returned (sv (nxN m o a b e (k + 1))) ∧ Below W.heap.size W W' := by
  rcases (show m = 0 ∨ m = 1 ∨ m = 2 ∨ m = 3 ∨ m = 4 by omega) with rfl | rfl | rfl | rfl | rfl
  all_goals
    rcases (show k = 0 ∨ k = 1 ∨ k = 2 ∨ k = 3 ∨ k = 4 ∨ k = 5 ∨ k = 6 ∨ k = 7 ∨ k = 8 by omega) with rfl | rfl | rfl | rfl | rfl | rfl | rfl | rfl | rfl
    all_goals
      clear hm hk
      go_enter Try.func118, Try.ntmps118
      go_wp2
      all_goals
        refine bodyPost_ret (v := .agg #[_, _, _, _, _]) (by simp [results, go_sem]; exact ⟨rfl, rfl, rfl, rfl, rfl⟩) rfl ⟨?_, kept_alloc (kept_alloc (Below.refl _ _) _) _⟩
        cases o <;> cases a <;> cases b <;> cases e <;> first | contradiction | rfl

theorem s_l13Ok (m : Int) (g o : Nat) (W : World) (c0 : W.cell? ⟨g, o, none⟩ = some (.int .i64 m)) :
    Calls Try.prog 83 #[.pointer (some ⟨g, o, none⟩)] W fun e W' => e = .returned (.bool (inB m 0 4)) ∧ W = W' := by
  go_enter Try.func83, Try.ntmps83
  go_wp2_with (go_at_call 109; refine (s_l00In _ _ _ _).mono ?_; rintro e w' ⟨rfl, rfl⟩)
  go_ret
  exact ⟨rfl, rfl⟩

theorem i_ValidControl (m : Int) (o a b e : Bool) (W : World) :
    Calls Try.prog 86 #[.agg #[.int .i64 m, .bool o, .bool a, .bool b, .bool e]] W fun e W' => e = .returned (.bool (inB m 0 4)) ∧ Below W.heap.size W W' := by
  go_enter Try.func86, Try.ntmps86
  go_wp2_with (go_at_call 116; refine (i_isMode _ _).mono ?_; rintro e w' ⟨rfl, rfl⟩)
  go_ret
  exact ⟨rfl, kept_alloc (Below.refl _ _) _⟩

end Go.Proofs.Ytkloolhngddpiaa
