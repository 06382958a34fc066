/- The law on moves of each event, its two functions joined. -/
import Derived.Test.YtkloolhngddpiaaChkI
import Derived.Test.YtkloolhngddpiaaCLawA
import Derived.Test.YtkloolhngddpiaaOpenSt
namespace Go.Proofs.Ytkloolhngddpiaa
open Go.RowKit Go.Deep
set_option linter.unusedVariables false
set_option maxRecDepth 100000

theorem s_MovesOf_no (m : Int) (o a b e : Bool) (W : World) (hm : inB m 0 4 = false) :
    Calls Try.prog 34 #[.agg #[.int .i64 m, .bool o, .bool a, .bool b, .bool e]] W fun en W' => en = .returned (.tuple #[.slice none 0 0, .int .i64 1]) ∧ Below W.heap.size W W' := by
  have HO := Lib.hid (fun w h => s_l13Ok m W.heap.size 0 w h)
  rw [hm] at HO
  have q0 : (W.alloc (.cells #[.int .i64 m, .bool o, .bool a, .bool b, .bool e] 53)).cell? ⟨W.heap.size, 0, none⟩ = some (.int .i64 m) := boxed_at rfl rfl
  have Q0 := Lib.hid q0
  clear q0 hm
  go_enter Try.func34, Try.ntmps34
  go_wp2_with (go_at_call 83; refine (HO.out _ Q0.out).mono ?_; rintro e w' ⟨rfl, rfl⟩)
  go_ret2
  exact ⟨rfl, kept_alloc (Below.refl _ _) _⟩
theorem i_MovesOf_no (m : Int) (o a b e : Bool) (W : World) (hm : inB m 0 4 = false) :
    Calls Try.prog 36 #[.agg #[.int .i64 m, .bool o, .bool a, .bool b, .bool e]] W fun en W' => en = .returned (.tuple #[.slice none 0 0, .int .i64 1]) ∧ Below W.heap.size W W' := by
  have HO := Lib.hid (fun w => i_ValidControl m o a b e w)
  rw [hm] at HO
  clear hm
  go_enter Try.func36, Try.ntmps36
  go_wp2_with (go_at_call 86; refine (HO.out _).mono ?_; rintro e w2 ⟨rfl, hb2⟩)
  go_ret2
  exact ⟨rfl, kept_trans (kept_alloc (Below.refl _ _) _) hb2⟩

theorem l_MovesOf (m : Int) (o a b e : Bool) (W : World) : Calls Try.prog 6 #[.agg #[.int .i64 m, .bool o, .bool a, .bool b, .bool e]] W (Truly W) := by
  cases hm : inB m 0 4
  · exact l_MovesOf_of m o a b e 0 (fun _ => 0) (by omega) 1
      (fun w => (s_MovesOf_no m o a b e w hm).mono fun _ _ ⟨h1, h2⟩ => ⟨_, h1, h2, Out.nil _ _ _ _ _⟩)
      (fun w => (i_MovesOf_no m o a b e w hm).mono fun _ _ ⟨h1, h2⟩ => ⟨_, h1, h2, Out.nil _ _ _ _ _⟩)
  · obtain ⟨h0, h4⟩ := inB_out hm
    obtain ⟨c, hc, rfl, rfl, rfl, rfl, rfl⟩ := st_code (o := o) (a := a) (b := b) (e := e) h0 h4
    exact l_MovesOf_of _ _ _ _ _ 10 (fun j => ((cntK (M c) (M c).length j : Nat) : Int)) (by omega) 0 (fun w => s_MovesOf c w hc) (fun w => i_MovesOf c w hc)

end Go.Proofs.Ytkloolhngddpiaa
