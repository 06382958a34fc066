/- The laws on all that is reached and on all moves. -/
import Derived.Test.YtkloolhngddpiaaChkF
import Derived.Test.YtkloolhngddpiaaCLawR
import Derived.Test.YtkloolhngddpiaaOpenSt
namespace Go.Proofs.Ytkloolhngddpiaa
open Go.RowKit Go.Deep
set_option linter.unusedVariables false
set_option maxRecDepth 100000

theorem s_ReachedStates_no (m : Int) (o a b e : Bool) (W : World) (hm : inB m 0 4 = false) :
    Calls Try.prog 42 #[.agg #[.int .i64 m, .bool o, .bool a, .bool b, .bool e]] W fun en W' => en = .returned (.tuple #[.slice none 0 0, .int .i64 1]) ∧ Below W.heap.size W W' := by
  have HO := Lib.hid (fun w h => s_l13Ok m W.heap.size 0 w h)
  rw [hm] at HO
  have q0 : (W.alloc (.cells #[.int .i64 m, .bool o, .bool a, .bool b, .bool e] 53)).cell? ⟨W.heap.size, 0, none⟩ = some (.int .i64 m) := boxed_at rfl rfl
  have Q0 := Lib.hid q0
  clear q0 hm
  go_enter Try.func42, Try.ntmps42
  go_wp2_with (go_at_call 83; refine (HO.out _ Q0.out).mono ?_; rintro e w' ⟨rfl, rfl⟩)
  go_ret2
  exact ⟨rfl, kept_alloc (Below.refl _ _) _⟩
theorem i_ReachedStates_no (m : Int) (o a b e : Bool) (W : World) (hm : inB m 0 4 = false) :
    Calls Try.prog 43 #[.agg #[.int .i64 m, .bool o, .bool a, .bool b, .bool e]] W fun en W' => en = .returned (.tuple #[.slice none 0 0, .int .i64 1]) ∧ Below W.heap.size W W' := by
  have HO := Lib.hid (fun w => i_ValidControl m o a b e w)
  rw [hm] at HO
  clear hm
  go_enter Try.func43, Try.ntmps43
  go_wp2_with (go_at_call 86; refine (HO.out _).mono ?_; rintro e w2 ⟨rfl, hb2⟩)
  go_ret2
  exact ⟨rfl, kept_trans (kept_alloc (Below.refl _ _) _) hb2⟩

theorem s_StateMoves_no (m : Int) (o a b e : Bool) (W : World) (hm : inB m 0 4 = false) :
    Calls Try.prog 37 #[.agg #[.int .i64 m, .bool o, .bool a, .bool b, .bool e]] W fun en W' => en = .returned (.tuple #[.slice none 0 0, .int .i64 1]) ∧ Below W.heap.size W W' := by
  have HO := Lib.hid (fun w h => s_l13Ok m W.heap.size 0 w h)
  rw [hm] at HO
  have q0 : (W.alloc (.cells #[.int .i64 m, .bool o, .bool a, .bool b, .bool e] 53)).cell? ⟨W.heap.size, 0, none⟩ = some (.int .i64 m) := boxed_at rfl rfl
  have Q0 := Lib.hid q0
  clear q0 hm
  go_enter Try.func37, Try.ntmps37
  go_wp2_with (go_at_call 83; refine (HO.out _ Q0.out).mono ?_; rintro e w' ⟨rfl, rfl⟩)
  go_ret2
  exact ⟨rfl, kept_alloc (Below.refl _ _) _⟩
theorem i_StateMoves_no (m : Int) (o a b e : Bool) (W : World) (hm : inB m 0 4 = false) :
    Calls Try.prog 38 #[.agg #[.int .i64 m, .bool o, .bool a, .bool b, .bool e]] W fun en W' => en = .returned (.tuple #[.slice none 0 0, .int .i64 1]) ∧ Below W.heap.size W W' := by
  have HO := Lib.hid (fun w => i_ValidControl m o a b e w)
  rw [hm] at HO
  clear hm
  go_enter Try.func38, Try.ntmps38
  go_wp2_with (go_at_call 86; refine (HO.out _).mono ?_; rintro e w2 ⟨rfl, hb2⟩)
  go_ret2
  exact ⟨rfl, kept_trans (kept_alloc (Below.refl _ _) _) hb2⟩

def RcPost (x : Nat) (W : World) (en : Ending) (W' : World) : Prop := ∃ v1, en = .returned (.tuple #[v1, .int .i64 0]) ∧ Below W.heap.size W W' ∧ Out W' W.heap.size 53 5 v1 (R x).length (stc (R x))
def SmPost (x : Nat) (W : World) (en : Ending) (W' : World) : Prop := ∃ v1, en = .returned (.tuple #[v1, .int .i64 0]) ∧ Below W.heap.size W W' ∧ Out W' W.heap.size 77 3 v1 (M x).length (mvc (M x))

set_option maxHeartbeats 800000 in
theorem i_ReachedStates_yes (x : Nat) (W : World) (hx : x < 80) : Calls Try.prog 43 #[.agg #[.int .i64 (cm x : Nat), .bool (co x), .bool (ca x), .bool (cb x), .bool (ce x)]] W (RcPost x W) := by
  have KB := kept_alloc (Below.refl W.heap.size W) (.cells #[.int .i64 (cm x : Nat), .bool (co x), .bool (ca x), .bool (cb x), .bool (ce x)] 53)
  have hm0 : inB (cm x : Nat) 0 4 = true := inB_yes (by omega) (by have := cm_lt hx; omega)
  have Q0 : Hid ((W.alloc (.cells #[.int .i64 (cm x : Nat), .bool (co x), .bool (ca x), .bool (cb x), .bool (ce x)] 53)).cell? ⟨W.heap.size, 0, none⟩ = some (.int .i64 (cm x : Nat))) := boxed_at rfl rfl
  have Q1 : Hid ((W.alloc (.cells #[.int .i64 (cm x : Nat), .bool (co x), .bool (ca x), .bool (cb x), .bool (ce x)] 53)).cell? ⟨W.heap.size, 1, none⟩ = some (.bool (co x))) := boxed_at rfl rfl
  have Q2 : Hid ((W.alloc (.cells #[.int .i64 (cm x : Nat), .bool (co x), .bool (ca x), .bool (cb x), .bool (ce x)] 53)).cell? ⟨W.heap.size, 2, none⟩ = some (.bool (ca x))) := boxed_at rfl rfl
  have Q3 : Hid ((W.alloc (.cells #[.int .i64 (cm x : Nat), .bool (co x), .bool (ca x), .bool (cb x), .bool (ce x)] 53)).cell? ⟨W.heap.size, 3, none⟩ = some (.bool (cb x))) := boxed_at rfl rfl
  have Q4 : Hid ((W.alloc (.cells #[.int .i64 (cm x : Nat), .bool (co x), .bool (ca x), .bool (cb x), .bool (ce x)] 53)).cell? ⟨W.heap.size, 4, none⟩ = some (.bool (ce x))) := boxed_at rfl rfl
  have HO := Lib.hid (fun w => i_ValidControl (cm x : Nat) (co x) (ca x) (cb x) (ce x) w)
  rw [hm0] at HO
  have HRc := Lib.hid (fun w => i_reached x w hx)
  unfold ReachPost at HRc
  clear hm0
  go_enter Try.func43, Try.ntmps43
  go_wp2_with (first | (go_at_call 86; refine (HO.out _).mono ?_; rintro e w2 ⟨rfl, hb2⟩; have q0 := cell_keep hb2 Q0.out; have q1 := cell_keep hb2 Q1.out; have q2 := cell_keep hb2 Q2.out; have q3 := cell_keep hb2 Q3.out; have q4 := cell_keep hb2 Q4.out) | (go_at_call 87; refine (HRc.out _).mono ?_; rintro e w3 ⟨v1, v2, rfl, hb3, ho1, ho2⟩))
  refine bodyPost_ret (results_tmp2 rfl _ _ _) rfl ⟨v1, rfl, kept_trans (kept_trans KB hb2) hb3, ho1.base_le (kept_trans KB hb2).size⟩

set_option maxHeartbeats 800000 in
theorem s_ReachedStates_yes (x : Nat) (W : World) (hx : x < 80) : Calls Try.prog 42 #[.agg #[.int .i64 (cm x : Nat), .bool (co x), .bool (ca x), .bool (cb x), .bool (ce x)]] W (RcPost x W) := by
  have KB := kept_alloc (Below.refl W.heap.size W) (.cells #[.int .i64 (cm x : Nat), .bool (co x), .bool (ca x), .bool (cb x), .bool (ce x)] 53)
  have hm0 : inB (cm x : Nat) 0 4 = true := inB_yes (by omega) (by have := cm_lt hx; omega)
  have Q0 : Hid ((W.alloc (.cells #[.int .i64 (cm x : Nat), .bool (co x), .bool (ca x), .bool (cb x), .bool (ce x)] 53)).cell? ⟨W.heap.size, 0, none⟩ = some (.int .i64 (cm x : Nat))) := boxed_at rfl rfl
  have Q1 : Hid ((W.alloc (.cells #[.int .i64 (cm x : Nat), .bool (co x), .bool (ca x), .bool (cb x), .bool (ce x)] 53)).cell? ⟨W.heap.size, 1, none⟩ = some (.bool (co x))) := boxed_at rfl rfl
  have Q2 : Hid ((W.alloc (.cells #[.int .i64 (cm x : Nat), .bool (co x), .bool (ca x), .bool (cb x), .bool (ce x)] 53)).cell? ⟨W.heap.size, 2, none⟩ = some (.bool (ca x))) := boxed_at rfl rfl
  have Q3 : Hid ((W.alloc (.cells #[.int .i64 (cm x : Nat), .bool (co x), .bool (ca x), .bool (cb x), .bool (ce x)] 53)).cell? ⟨W.heap.size, 3, none⟩ = some (.bool (cb x))) := boxed_at rfl rfl
  have Q4 : Hid ((W.alloc (.cells #[.int .i64 (cm x : Nat), .bool (co x), .bool (ca x), .bool (cb x), .bool (ce x)] 53)).cell? ⟨W.heap.size, 4, none⟩ = some (.bool (ce x))) := boxed_at rfl rfl
  have HO := Lib.hid (fun w h => s_l13Ok (cm x : Nat) W.heap.size 0 w h)
  rw [hm0] at HO
  have HRc := Lib.hid (fun w => s_l15Reached x w hx)
  unfold SReachPost at HRc
  have HMv := Lib.hid (fun v w h => s_l15Moves x v w hx h)
  unfold SMovesPost at HMv
  have hR20 : (R x).length ≤ 20 := (chk0_out hx).2.2.1
  clear hm0
  have q0 := Q0.out
  have q1 := Q1.out
  have q2 := Q2.out
  have q3 := Q3.out
  have q4 := Q4.out
  go_enter Try.func42, Try.ntmps42
  go_wp2_with (first | (go_at_call 83; refine (HO.out _ Q0.out).mono ?_; rintro e w' ⟨rfl, rfl⟩) | (go_at_call 85; refine (HRc.out _).mono ?_; rintro e w3 ⟨v1, rfl, hb3, ho1⟩))
  refine bodyPost_ret (results_tmp2 rfl _ _ _) rfl ⟨v1, rfl, kept_trans KB hb3, ho1.base_le KB.size⟩

theorem l_ReachedStates (m : Int) (o a b e : Bool) (W : World) : Calls Try.prog 8 #[.agg #[.int .i64 m, .bool o, .bool a, .bool b, .bool e]] W (Truly W) := by
  cases hm : inB m 0 4
  · exact l_ReachedStates_of m o a b e 0 [] (by omega) 1
      (fun w => (s_ReachedStates_no m o a b e w hm).mono fun _ _ ⟨h1, h2⟩ => ⟨_, h1, h2, Out.nil _ _ _ _ _⟩)
      (fun w => (i_ReachedStates_no m o a b e w hm).mono fun _ _ ⟨h1, h2⟩ => ⟨_, h1, h2, Out.nil _ _ _ _ _⟩)
  · obtain ⟨h0, h4⟩ := inB_out hm
    obtain ⟨c, hc, rfl, rfl, rfl, rfl, rfl⟩ := st_code (o := o) (a := a) (b := b) (e := e) h0 h4
    exact l_ReachedStates_of _ _ _ _ _ (R c).length (R c) (by have := (chk0_out hc).2.2.1; omega) 0 (fun w => s_ReachedStates_yes c w hc) (fun w => i_ReachedStates_yes c w hc)

set_option maxHeartbeats 800000 in
theorem i_StateMoves_yes (x : Nat) (W : World) (hx : x < 80) : Calls Try.prog 38 #[.agg #[.int .i64 (cm x : Nat), .bool (co x), .bool (ca x), .bool (cb x), .bool (ce x)]] W (SmPost x W) := by
  have KB := kept_alloc (Below.refl W.heap.size W) (.cells #[.int .i64 (cm x : Nat), .bool (co x), .bool (ca x), .bool (cb x), .bool (ce x)] 53)
  have hm0 : inB (cm x : Nat) 0 4 = true := inB_yes (by omega) (by have := cm_lt hx; omega)
  have Q0 : Hid ((W.alloc (.cells #[.int .i64 (cm x : Nat), .bool (co x), .bool (ca x), .bool (cb x), .bool (ce x)] 53)).cell? ⟨W.heap.size, 0, none⟩ = some (.int .i64 (cm x : Nat))) := boxed_at rfl rfl
  have Q1 : Hid ((W.alloc (.cells #[.int .i64 (cm x : Nat), .bool (co x), .bool (ca x), .bool (cb x), .bool (ce x)] 53)).cell? ⟨W.heap.size, 1, none⟩ = some (.bool (co x))) := boxed_at rfl rfl
  have Q2 : Hid ((W.alloc (.cells #[.int .i64 (cm x : Nat), .bool (co x), .bool (ca x), .bool (cb x), .bool (ce x)] 53)).cell? ⟨W.heap.size, 2, none⟩ = some (.bool (ca x))) := boxed_at rfl rfl
  have Q3 : Hid ((W.alloc (.cells #[.int .i64 (cm x : Nat), .bool (co x), .bool (ca x), .bool (cb x), .bool (ce x)] 53)).cell? ⟨W.heap.size, 3, none⟩ = some (.bool (cb x))) := boxed_at rfl rfl
  have Q4 : Hid ((W.alloc (.cells #[.int .i64 (cm x : Nat), .bool (co x), .bool (ca x), .bool (cb x), .bool (ce x)] 53)).cell? ⟨W.heap.size, 4, none⟩ = some (.bool (ce x))) := boxed_at rfl rfl
  have HO := Lib.hid (fun w => i_ValidControl (cm x : Nat) (co x) (ca x) (cb x) (ce x) w)
  rw [hm0] at HO
  have HRc := Lib.hid (fun w => i_reached x w hx)
  unfold ReachPost at HRc
  clear hm0
  go_enter Try.func38, Try.ntmps38
  go_wp2_with (first | (go_at_call 86; refine (HO.out _).mono ?_; rintro e w2 ⟨rfl, hb2⟩; have q0 := cell_keep hb2 Q0.out; have q1 := cell_keep hb2 Q1.out; have q2 := cell_keep hb2 Q2.out; have q3 := cell_keep hb2 Q3.out; have q4 := cell_keep hb2 Q4.out) | (go_at_call 87; refine (HRc.out _).mono ?_; rintro e w3 ⟨v1, v2, rfl, hb3, ho1, ho2⟩))
  refine bodyPost_ret (results_tmp2 rfl _ _ _) rfl ⟨v2, rfl, kept_trans (kept_trans KB hb2) hb3, ho2.base_le (kept_trans KB hb2).size⟩

set_option maxHeartbeats 800000 in
theorem s_StateMoves_yes (x : Nat) (W : World) (hx : x < 80) : Calls Try.prog 37 #[.agg #[.int .i64 (cm x : Nat), .bool (co x), .bool (ca x), .bool (cb x), .bool (ce x)]] W (SmPost x W) := by
  have KB := kept_alloc (Below.refl W.heap.size W) (.cells #[.int .i64 (cm x : Nat), .bool (co x), .bool (ca x), .bool (cb x), .bool (ce x)] 53)
  have hm0 : inB (cm x : Nat) 0 4 = true := inB_yes (by omega) (by have := cm_lt hx; omega)
  have Q0 : Hid ((W.alloc (.cells #[.int .i64 (cm x : Nat), .bool (co x), .bool (ca x), .bool (cb x), .bool (ce x)] 53)).cell? ⟨W.heap.size, 0, none⟩ = some (.int .i64 (cm x : Nat))) := boxed_at rfl rfl
  have Q1 : Hid ((W.alloc (.cells #[.int .i64 (cm x : Nat), .bool (co x), .bool (ca x), .bool (cb x), .bool (ce x)] 53)).cell? ⟨W.heap.size, 1, none⟩ = some (.bool (co x))) := boxed_at rfl rfl
  have Q2 : Hid ((W.alloc (.cells #[.int .i64 (cm x : Nat), .bool (co x), .bool (ca x), .bool (cb x), .bool (ce x)] 53)).cell? ⟨W.heap.size, 2, none⟩ = some (.bool (ca x))) := boxed_at rfl rfl
  have Q3 : Hid ((W.alloc (.cells #[.int .i64 (cm x : Nat), .bool (co x), .bool (ca x), .bool (cb x), .bool (ce x)] 53)).cell? ⟨W.heap.size, 3, none⟩ = some (.bool (cb x))) := boxed_at rfl rfl
  have Q4 : Hid ((W.alloc (.cells #[.int .i64 (cm x : Nat), .bool (co x), .bool (ca x), .bool (cb x), .bool (ce x)] 53)).cell? ⟨W.heap.size, 4, none⟩ = some (.bool (ce x))) := boxed_at rfl rfl
  have HO := Lib.hid (fun w h => s_l13Ok (cm x : Nat) W.heap.size 0 w h)
  rw [hm0] at HO
  have HRc := Lib.hid (fun w => s_l15Reached x w hx)
  unfold SReachPost at HRc
  have HMv := Lib.hid (fun v w h => s_l15Moves x v w hx h)
  unfold SMovesPost at HMv
  have hR20 : (R x).length ≤ 20 := (chk0_out hx).2.2.1
  clear hm0
  have q0 := Q0.out
  have q1 := Q1.out
  have q2 := Q2.out
  have q3 := Q3.out
  have q4 := Q4.out
  go_enter Try.func37, Try.ntmps37
  go_wp2_with (first | (go_at_call 83; refine (HO.out _ Q0.out).mono ?_; rintro e w' ⟨rfl, rfl⟩) | (go_at_call 85; refine (HRc.out _).mono ?_; rintro e w3 ⟨v1, rfl, hb3, ho1⟩) | (go_at_call 84; refine (HMv.out _ _ (ho1.sl (by omega))).mono ?_; rintro e w4 ⟨v2, rfl, hb4, ho2⟩))
  refine bodyPost_ret (results_tmp2 rfl _ _ _) rfl ⟨v2, rfl, kept_trans (kept_trans KB hb3) hb4, ho2.base_le (kept_trans KB hb3).size⟩

theorem l_StateMoves (m : Int) (o a b e : Bool) (W : World) : Calls Try.prog 7 #[.agg #[.int .i64 m, .bool o, .bool a, .bool b, .bool e]] W (Truly W) := by
  cases hm : inB m 0 4
  · exact l_StateMoves_of m o a b e 0 [] (by omega) 1
      (fun w => (s_StateMoves_no m o a b e w hm).mono fun _ _ ⟨h1, h2⟩ => ⟨_, h1, h2, Out.nil _ _ _ _ _⟩)
      (fun w => (i_StateMoves_no m o a b e w hm).mono fun _ _ ⟨h1, h2⟩ => ⟨_, h1, h2, Out.nil _ _ _ _ _⟩)
  · obtain ⟨h0, h4⟩ := inB_out hm
    obtain ⟨c, hc, rfl, rfl, rfl, rfl, rfl⟩ := st_code (o := o) (a := a) (b := b) (e := e) h0 h4
    exact l_StateMoves_of _ _ _ _ _ (M c).length (M c) (by have := (chk0_out hc).2.2.2.1; omega) 0 (fun w => s_StateMoves_yes c w hc) (fun w => i_StateMoves_yes c w hc)

end Go.Proofs.Ytkloolhngddpiaa
