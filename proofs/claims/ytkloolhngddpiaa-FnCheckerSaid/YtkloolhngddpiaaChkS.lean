/- What the law on the checker calls: safe states, the next state, the first unsafe state. -/
import Derived.Test.YtkloolhngddpiaaChkI
import Derived.Test.YtkloolhngddpiaaChkV
import Derived.Test.YtkloolhngddpiaaChkX
namespace Go.Proofs.Ytkloolhngddpiaa
open Go.RowKit Go.Deep
set_option linter.unusedVariables false
set_option maxRecDepth 100000

theorem s_l13Runs (m g o : Nat) (W : World) (hm : m < 5) (c0 : W.cell? ⟨g, o, none⟩ = some (.int .i64 (m : Nat))) :
    Calls Try.prog 102 #[.pointer (some ⟨g, o, none⟩)] W fun e W' => e = .returned (.bool (Nat.beq m 2 || Nat.beq m 3)) ∧ W = W' := by
  rcases (show m = 0 ∨ m = 1 ∨ m = 2 ∨ m = 3 ∨ m = 4 by omega) with rfl | rfl | rfl | rfl | rfl
  all_goals
    clear hm
    go_enter Try.func102, Try.ntmps102
    go_wp2
    go_ret
    exact ⟨rfl, rfl⟩

set_option maxHeartbeats 1600000 in
theorem s_IsSafeState_at (m : Nat) (o a b e : Bool) (W : World) (hm : m < 5) :
    Calls Try.prog 57 #[.agg #[.int .i64 (m : Nat), .bool o, .bool a, .bool b, .bool e]] W fun en W' => en = .returned (.bool (safeM m o e)) ∧ Below W.heap.size W W' := by
  have hm0 : inB (m : Nat) 0 4 = true := inB_yes (by omega) (by omega)
  have HO := Lib.hid (fun w h => s_l13Ok (m : Nat) W.heap.size 0 w h)
  rw [hm0] at HO
  have HRn := Lib.hid (fun w h => s_l13Runs m W.heap.size 0 w hm h)
  have Q0 : Hid ((W.alloc (.cells #[.int .i64 (m : Nat), .bool o, .bool a, .bool b, .bool e] 53)).cell? ⟨W.heap.size, 0, none⟩ = some (.int .i64 (m : Nat))) := boxed_at rfl rfl
  have q1 : (W.alloc (.cells #[.int .i64 (m : Nat), .bool o, .bool a, .bool b, .bool e] 53)).cell? ⟨W.heap.size, 1, none⟩ = some (.bool o) := boxed_at rfl rfl
  have q4 : (W.alloc (.cells #[.int .i64 (m : Nat), .bool o, .bool a, .bool b, .bool e] 53)).cell? ⟨W.heap.size, 4, none⟩ = some (.bool e) := boxed_at rfl rfl
  clear hm0
  cases hr : (Nat.beq m 2 || Nat.beq m 3)
  · rw [hr] at HRn
    have hs : safeM m o e = true := by unfold safeM; rw [hr]; rfl
    rw [hs]
    clear hr hs hm
    go_enter Try.func57, Try.ntmps57
    go_wp2_with (first | (go_at_call 83; refine (HO.out _ Q0.out).mono ?_; rintro e' w' ⟨rfl, rfl⟩) | (go_at_call 102; refine (HRn.out _ Q0.out).mono ?_; rintro e' w' ⟨rfl, rfl⟩))
    go_ret
    exact ⟨rfl, kept_alloc (Below.refl _ _) _⟩
  · rw [hr] at HRn
    have hs : safeM m o e = (!o && !e) := by unfold safeM; rw [hr]; rfl
    rw [hs]
    clear hr hs hm
    cases o <;> cases e
    all_goals
      go_enter Try.func57, Try.ntmps57
      go_wp2_with (first | (go_at_call 83; refine (HO.out _ Q0.out).mono ?_; rintro e' w' ⟨rfl, rfl⟩) | (go_at_call 102; refine (HRn.out _ Q0.out).mono ?_; rintro e' w' ⟨rfl, rfl⟩))
      go_ret
      exact ⟨rfl, kept_alloc (Below.refl _ _) _⟩
theorem s_IsSafeState (c : Nat) (W : World) (hc : c < 80) :
    Calls Try.prog 57 #[.agg #[.int .i64 (cm c : Nat), .bool (co c), .bool (ca c), .bool (cb c), .bool (ce c)]] W fun en W' => en = .returned (.bool (safeC c)) ∧ Below W.heap.size W W' := by
  unfold safeC
  exact s_IsSafeState_at (cm c) (co c) (ca c) (cb c) (ce c) W (cm_lt hc)

set_option maxHeartbeats 3200000 in
theorem i_isSafeState_at (m : Nat) (o a b e : Bool) (W : World) (hm : m < 5) :
    Calls Try.prog 107 #[.agg #[.int .i64 (m : Nat), .bool o, .bool a, .bool b, .bool e]] W fun en W' => en = .returned (.bool (safeM m o e)) ∧ Below W.heap.size W W' := by
  rcases (show m = 0 ∨ m = 1 ∨ m = 2 ∨ m = 3 ∨ m = 4 by omega) with rfl | rfl | rfl | rfl | rfl
  all_goals
    clear hm
    cases o <;> cases e
    all_goals
      go_enter Try.func107, Try.ntmps107
      go_wp2
      go_ret
      exact ⟨rfl, (by repeat (first | assumption | exact Below.refl _ _ | refine kept_drew ?_ | refine kept_drewN ?_ _ | refine kept_alloc ?_ _ | refine kept_set ?_ ?_ _ | (simp; done) | (simp; omega) | refine kept_trans ?_ (by assumption)))⟩
theorem i_isSafeState (c : Nat) (W : World) (hc : c < 80) :
    Calls Try.prog 107 #[.agg #[.int .i64 (cm c : Nat), .bool (co c), .bool (ca c), .bool (cb c), .bool (ce c)]] W fun en W' => en = .returned (.bool (safeC c)) ∧ Below W.heap.size W W' := by
  unfold safeC
  exact i_isSafeState_at (cm c) (co c) (ca c) (cb c) (ce c) W (cm_lt hc)

theorem s_l13Event (n : Int) (W : World) : Calls Try.prog 103 #[.int .i64 n] W fun e W' => e = .returned (.bool (inB n (1) (9))) ∧ W = W' := by
  go_enter Try.func103, Try.ntmps103
  go_wp2_with (go_at_call 109; refine (s_l00In _ _ _ _).mono ?_; rintro e w' ⟨rfl, rfl⟩)
  go_ret
  exact ⟨rfl, rfl⟩

set_option maxHeartbeats 1600000 in
theorem s_NextState_yes (c k : Nat) (W : World) (hc : c < 80) (hk : 1 ≤ k ∧ k ≤ 9) (ha : al c k = true) :
    Calls Try.prog 58 #[.agg #[.int .i64 (cm c : Nat), .bool (co c), .bool (ca c), .bool (cb c), .bool (ce c)], .int .i64 (k : Nat)] W fun en W' => en = .returned (.tuple #[.agg #[.int .i64 (cm (nx c k) : Nat), .bool (co (nx c k)), .bool (ca (nx c k)), .bool (cb (nx c k)), .bool (ce (nx c k))], .int .i64 0]) ∧ Below W.heap.size W W' := by
  have hm0 : inB (cm c : Nat) 0 4 = true := inB_yes (by omega) (by have := cm_lt hc; omega)
  have he0 : inB (k : Nat) 1 9 = true := inB_yes (by omega) (by omega)
  have HO := Lib.hid (fun w h => s_l13Ok (cm c : Nat) W.heap.size 0 w h)
  rw [hm0] at HO
  have HE := Lib.hid (fun w => s_l13Event (k : Nat) w)
  rw [he0] at HE
  have HA := Lib.hid (fun w => s_l13Next_yes c k w hc hk ha)
  have KA := kept_alloc (Below.refl W.heap.size W) (.cells #[.int .i64 (cm c : Nat), .bool (co c), .bool (ca c), .bool (cb c), .bool (ce c)] 53)
  have KB := kept_alloc KA (.cells #[.int .i64 0, .bool false, .bool false, .bool false, .bool false] 53)
  have hz : (W.alloc (.cells #[.int .i64 (cm c : Nat), .bool (co c), .bool (ca c), .bool (cb c), .bool (ce c)] 53)).heap.size = W.heap.size + 1 := by simp
  have rX := (Box5.new W (.int .i64 (cm c : Nat)) (.bool (co c)) (.bool (ca c)) (.bool (cb c)) (.bool (ce c)) 53).kept (kept_alloc (Below.refl _ _) (.cells #[.int .i64 0, .bool false, .bool false, .bool false, .bool false] 53))
  have rZ := Box5.new (W.alloc (.cells #[.int .i64 (cm c : Nat), .bool (co c), .bool (ca c), .bool (cb c), .bool (ce c)] 53)) (.int .i64 0) (.bool false) (.bool false) (.bool false) (.bool false) 53
  rw [hz] at rZ
  obtain ⟨-, q0, q1, q2, q3, q4, -⟩ := id rX
  clear hm0 he0 ha rX hz KA
  generalize nx c k = y at *
  go_enter Try.func58, Try.ntmps58
  go_wp2_with (first | (go_at_call 83; refine (HO.out _ q0).mono ?_; rintro e' w' ⟨rfl, rfl⟩) | (go_at_call 103; refine (HE.out _).mono ?_; rintro e' w' ⟨rfl, rfl⟩) | (go_at_call 104; refine (HA.out _).mono ?_; rintro e' w3 ⟨rfl, hb3⟩; have r1 := (rZ.kept hb3).kept (kept_alloc (Below.refl _ _) (.cells #[.int .i64 (cm y : Nat), .bool (co y), .bool (ca y), .bool (cb y), .bool (ce y)] 53)); have K1 := kept_alloc (kept_trans KB hb3) (.cells #[.int .i64 (cm y : Nat), .bool (co y), .bool (ca y), .bool (cb y), .bool (ce y)] 53); obtain ⟨-, y0, y1, y2, y3, y4, yf⟩ := id r1; have f0 := yf 0; have f1 := yf 1; have f2 := yf 2; have f3 := yf 3; have f4 := yf 4))
  refine bodyPost_ret (v := .tuple #[.agg #[.int .i64 (cm y : Nat), .bool (co y), .bool (ca y), .bool (cb y), .bool (ce y)], .int .i64 0]) (by simp [results, go_sem, y0, y1, y2, y3, y4]) rfl ⟨rfl, ?_⟩
  exact kept_put K1 (by omega) _ _ _ _ _

set_option maxHeartbeats 1600000 in
theorem s_NextState_no (c k : Nat) (W : World) (hc : c < 80) (hk : 1 ≤ k ∧ k ≤ 9) (ha : al c k = false) :
    Calls Try.prog 58 #[.agg #[.int .i64 (cm c : Nat), .bool (co c), .bool (ca c), .bool (cb c), .bool (ce c)], .int .i64 (k : Nat)] W fun en W' => en = .returned (.tuple #[.agg #[.int .i64 0, .bool false, .bool false, .bool false, .bool false], .int .i64 6]) ∧ Below W.heap.size W W' := by
  have hm0 : inB (cm c : Nat) 0 4 = true := inB_yes (by omega) (by have := cm_lt hc; omega)
  have he0 : inB (k : Nat) 1 9 = true := inB_yes (by omega) (by omega)
  have HO := Lib.hid (fun w h => s_l13Ok (cm c : Nat) W.heap.size 0 w h)
  rw [hm0] at HO
  have HE := Lib.hid (fun w => s_l13Event (k : Nat) w)
  rw [he0] at HE
  have HA := Lib.hid (fun w => s_l13Next_no c k w hc hk ha)
  have KA := kept_alloc (Below.refl W.heap.size W) (.cells #[.int .i64 (cm c : Nat), .bool (co c), .bool (ca c), .bool (cb c), .bool (ce c)] 53)
  have KB := kept_alloc KA (.cells #[.int .i64 0, .bool false, .bool false, .bool false, .bool false] 53)
  have hz : (W.alloc (.cells #[.int .i64 (cm c : Nat), .bool (co c), .bool (ca c), .bool (cb c), .bool (ce c)] 53)).heap.size = W.heap.size + 1 := by simp
  have rX := (Box5.new W (.int .i64 (cm c : Nat)) (.bool (co c)) (.bool (ca c)) (.bool (cb c)) (.bool (ce c)) 53).kept (kept_alloc (Below.refl _ _) (.cells #[.int .i64 0, .bool false, .bool false, .bool false, .bool false] 53))
  have rZ := Box5.new (W.alloc (.cells #[.int .i64 (cm c : Nat), .bool (co c), .bool (ca c), .bool (cb c), .bool (ce c)] 53)) (.int .i64 0) (.bool false) (.bool false) (.bool false) (.bool false) 53
  rw [hz] at rZ
  obtain ⟨-, q0, q1, q2, q3, q4, -⟩ := id rX
  clear hm0 he0 ha rX hz KA
  go_enter Try.func58, Try.ntmps58
  go_wp2_with (first | (go_at_call 83; refine (HO.out _ q0).mono ?_; rintro e' w' ⟨rfl, rfl⟩) | (go_at_call 103; refine (HE.out _).mono ?_; rintro e' w' ⟨rfl, rfl⟩) | (go_at_call 104; refine (HA.out _).mono ?_; rintro e' w3 ⟨rfl, hb3⟩; have r1 := (rZ.kept hb3).kept (kept_alloc (Below.refl _ _) (.cells #[.int .i64 (cm c : Nat), .bool (co c), .bool (ca c), .bool (cb c), .bool (ce c)] 53)); have K1 := kept_alloc (kept_trans KB hb3) (.cells #[.int .i64 (cm c : Nat), .bool (co c), .bool (ca c), .bool (cb c), .bool (ce c)] 53); obtain ⟨-, y0, y1, y2, y3, y4, yf⟩ := id r1; have f0 := yf 0; have f1 := yf 1; have f2 := yf 2; have f3 := yf 3; have f4 := yf 4))
  refine bodyPost_ret (v := .tuple #[.agg #[.int .i64 0, .bool false, .bool false, .bool false, .bool false], .int .i64 6]) (by simp [results, go_sem, y0, y1, y2, y3, y4]) rfl ⟨rfl, ?_⟩
  exact kept_put K1 (by omega) _ _ _ _ _

end Go.Proofs.Ytkloolhngddpiaa
