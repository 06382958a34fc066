/- The way to a state: the law. -/
import Derived.Test.YtkloolhngddpiaaWayS
import Derived.Test.YtkloolhngddpiaaCLawW
import Derived.Test.YtkloolhngddpiaaOpenSt
namespace Go.Proofs.Ytkloolhngddpiaa
open Go.RowKit Go.Deep
set_option linter.unusedVariables false
set_option maxRecDepth 100000

set_option maxHeartbeats 800000 in
theorem s_WayTo_no0 (m : Int) (o a b e : Bool) (m' : Int) (o' a' b' e' : Bool) (W : World) (h0 : inB m 0 4 = false) : Calls Try.prog 49 #[.agg #[.int .i64 m, .bool o, .bool a, .bool b, .bool e], .agg #[.int .i64 m', .bool o', .bool a', .bool b', .bool e']] W fun en W' => en = .returned (.tuple #[.slice none 0 0, .int .i64 1]) ∧ Below W.heap.size W W' := by
  have KA := kept_alloc (Below.refl W.heap.size W) (.cells #[.int .i64 m, .bool o, .bool a, .bool b, .bool e] 53)
  have KB := kept_alloc KA (.cells #[.int .i64 m', .bool o', .bool a', .bool b', .bool e'] 53)
  have hn2 : (W.alloc (.cells #[.int .i64 m, .bool o, .bool a, .bool b, .bool e] 53)).heap.size = W.heap.size + 1 := by simp
  obtain ⟨WB, hWB⟩ : ∃ WB, WB = (W.alloc (.cells #[.int .i64 m, .bool o, .bool a, .bool b, .bool e] 53)).alloc (.cells #[.int .i64 m', .bool o', .bool a', .bool b', .bool e'] 53) := ⟨_, rfl⟩
  have P0 : Hid (WB.cell? ⟨W.heap.size, 0, none⟩ = some (.int .i64 m)) := by rw [hWB]; exact cell_keep (kept_alloc (Below.refl _ _) _) (boxed_at rfl rfl)
  have Q0 : Hid (WB.cell? ⟨W.heap.size + 1, 0, none⟩ = some (.int .i64 m')) := by rw [hWB]; exact boxed_at hn2 rfl
  have P1 : Hid (WB.cell? ⟨W.heap.size, 1, none⟩ = some (.bool o)) := by rw [hWB]; exact cell_keep (kept_alloc (Below.refl _ _) _) (boxed_at rfl rfl)
  have Q1 : Hid (WB.cell? ⟨W.heap.size + 1, 1, none⟩ = some (.bool o')) := by rw [hWB]; exact boxed_at hn2 rfl
  have P2 : Hid (WB.cell? ⟨W.heap.size, 2, none⟩ = some (.bool a)) := by rw [hWB]; exact cell_keep (kept_alloc (Below.refl _ _) _) (boxed_at rfl rfl)
  have Q2 : Hid (WB.cell? ⟨W.heap.size + 1, 2, none⟩ = some (.bool a')) := by rw [hWB]; exact boxed_at hn2 rfl
  have P3 : Hid (WB.cell? ⟨W.heap.size, 3, none⟩ = some (.bool b)) := by rw [hWB]; exact cell_keep (kept_alloc (Below.refl _ _) _) (boxed_at rfl rfl)
  have Q3 : Hid (WB.cell? ⟨W.heap.size + 1, 3, none⟩ = some (.bool b')) := by rw [hWB]; exact boxed_at hn2 rfl
  have P4 : Hid (WB.cell? ⟨W.heap.size, 4, none⟩ = some (.bool e)) := by rw [hWB]; exact cell_keep (kept_alloc (Below.refl _ _) _) (boxed_at rfl rfl)
  have Q4 : Hid (WB.cell? ⟨W.heap.size + 1, 4, none⟩ = some (.bool e')) := by rw [hWB]; exact boxed_at hn2 rfl
  rw [← hWB] at KB
  have HWB := Lib.hid hWB
  clear hWB hn2 KA
  have HO0 := Lib.hid (fun w h => s_l13Ok m W.heap.size 0 w h)
  have HO1 := Lib.hid (fun w h => s_l13Ok m' (W.heap.size + 1) 0 w h)
  rw [h0] at HO0
  skip
  go_enter Try.func49, Try.ntmps49
  go_upto_region 1 with (fail)
  rw [← HWB.out]
  go_wp2_with (first | (go_at_call 83; refine (HO0.out _ P0.out).mono ?_; rintro e w' ⟨rfl, rfl⟩) | (go_at_call 83; refine (HO1.out _ Q0.out).mono ?_; rintro e w' ⟨rfl, rfl⟩))
  go_ret2
  exact ⟨rfl, KB⟩

set_option maxHeartbeats 800000 in
theorem i_WayTo_no0 (m : Int) (o a b e : Bool) (m' : Int) (o' a' b' e' : Bool) (W : World) (h0 : inB m 0 4 = false) : Calls Try.prog 50 #[.agg #[.int .i64 m, .bool o, .bool a, .bool b, .bool e], .agg #[.int .i64 m', .bool o', .bool a', .bool b', .bool e']] W fun en W' => en = .returned (.tuple #[.slice none 0 0, .int .i64 1]) ∧ Below W.heap.size W W' := by
  have KA := kept_alloc (Below.refl W.heap.size W) (.cells #[.int .i64 m, .bool o, .bool a, .bool b, .bool e] 53)
  have KB := kept_alloc KA (.cells #[.int .i64 m', .bool o', .bool a', .bool b', .bool e'] 53)
  have hn2 : (W.alloc (.cells #[.int .i64 m, .bool o, .bool a, .bool b, .bool e] 53)).heap.size = W.heap.size + 1 := by simp
  obtain ⟨WB, hWB⟩ : ∃ WB, WB = (W.alloc (.cells #[.int .i64 m, .bool o, .bool a, .bool b, .bool e] 53)).alloc (.cells #[.int .i64 m', .bool o', .bool a', .bool b', .bool e'] 53) := ⟨_, rfl⟩
  have P0 : Hid (WB.cell? ⟨W.heap.size, 0, none⟩ = some (.int .i64 m)) := by rw [hWB]; exact cell_keep (kept_alloc (Below.refl _ _) _) (boxed_at rfl rfl)
  have Q0 : Hid (WB.cell? ⟨W.heap.size + 1, 0, none⟩ = some (.int .i64 m')) := by rw [hWB]; exact boxed_at hn2 rfl
  have P1 : Hid (WB.cell? ⟨W.heap.size, 1, none⟩ = some (.bool o)) := by rw [hWB]; exact cell_keep (kept_alloc (Below.refl _ _) _) (boxed_at rfl rfl)
  have Q1 : Hid (WB.cell? ⟨W.heap.size + 1, 1, none⟩ = some (.bool o')) := by rw [hWB]; exact boxed_at hn2 rfl
  have P2 : Hid (WB.cell? ⟨W.heap.size, 2, none⟩ = some (.bool a)) := by rw [hWB]; exact cell_keep (kept_alloc (Below.refl _ _) _) (boxed_at rfl rfl)
  have Q2 : Hid (WB.cell? ⟨W.heap.size + 1, 2, none⟩ = some (.bool a')) := by rw [hWB]; exact boxed_at hn2 rfl
  have P3 : Hid (WB.cell? ⟨W.heap.size, 3, none⟩ = some (.bool b)) := by rw [hWB]; exact cell_keep (kept_alloc (Below.refl _ _) _) (boxed_at rfl rfl)
  have Q3 : Hid (WB.cell? ⟨W.heap.size + 1, 3, none⟩ = some (.bool b')) := by rw [hWB]; exact boxed_at hn2 rfl
  have P4 : Hid (WB.cell? ⟨W.heap.size, 4, none⟩ = some (.bool e)) := by rw [hWB]; exact cell_keep (kept_alloc (Below.refl _ _) _) (boxed_at rfl rfl)
  have Q4 : Hid (WB.cell? ⟨W.heap.size + 1, 4, none⟩ = some (.bool e')) := by rw [hWB]; exact boxed_at hn2 rfl
  rw [← hWB] at KB
  have HWB := Lib.hid hWB
  clear hWB hn2 KA
  have HO0 := Lib.hid (fun w => i_ValidControl m o a b e w)
  have HO1 := Lib.hid (fun w => i_ValidControl m' o' a' b' e' w)
  rw [h0] at HO0
  skip
  go_enter Try.func50, Try.ntmps50
  go_upto_region 1 with (fail)
  rw [← HWB.out]
  have p0 := P0.out
  have p1 := P1.out
  have p2 := P2.out
  have p3 := P3.out
  have p4 := P4.out
  go_wp2_with (first | (go_at_call 86; have _two := tok1; refine (HO1.out _).mono ?_; rintro e w3 ⟨rfl, hb3⟩) | (go_at_call 86; refine (HO0.out _).mono ?_; rintro e w2 ⟨rfl, hb2⟩; have tok1 : True := trivial; have q0 := cell_keep hb2 Q0.out; have q1 := cell_keep hb2 Q1.out; have q2 := cell_keep hb2 Q2.out; have q3 := cell_keep hb2 Q3.out; have q4 := cell_keep hb2 Q4.out))
  go_ret2
  exact ⟨rfl, kept_trans KB hb2⟩

set_option maxHeartbeats 800000 in
theorem s_WayTo_no1 (m : Int) (o a b e : Bool) (m' : Int) (o' a' b' e' : Bool) (W : World) (h0 : inB m 0 4 = true) (h1 : inB m' 0 4 = false) : Calls Try.prog 49 #[.agg #[.int .i64 m, .bool o, .bool a, .bool b, .bool e], .agg #[.int .i64 m', .bool o', .bool a', .bool b', .bool e']] W fun en W' => en = .returned (.tuple #[.slice none 0 0, .int .i64 1]) ∧ Below W.heap.size W W' := by
  have KA := kept_alloc (Below.refl W.heap.size W) (.cells #[.int .i64 m, .bool o, .bool a, .bool b, .bool e] 53)
  have KB := kept_alloc KA (.cells #[.int .i64 m', .bool o', .bool a', .bool b', .bool e'] 53)
  have hn2 : (W.alloc (.cells #[.int .i64 m, .bool o, .bool a, .bool b, .bool e] 53)).heap.size = W.heap.size + 1 := by simp
  obtain ⟨WB, hWB⟩ : ∃ WB, WB = (W.alloc (.cells #[.int .i64 m, .bool o, .bool a, .bool b, .bool e] 53)).alloc (.cells #[.int .i64 m', .bool o', .bool a', .bool b', .bool e'] 53) := ⟨_, rfl⟩
  have P0 : Hid (WB.cell? ⟨W.heap.size, 0, none⟩ = some (.int .i64 m)) := by rw [hWB]; exact cell_keep (kept_alloc (Below.refl _ _) _) (boxed_at rfl rfl)
  have Q0 : Hid (WB.cell? ⟨W.heap.size + 1, 0, none⟩ = some (.int .i64 m')) := by rw [hWB]; exact boxed_at hn2 rfl
  have P1 : Hid (WB.cell? ⟨W.heap.size, 1, none⟩ = some (.bool o)) := by rw [hWB]; exact cell_keep (kept_alloc (Below.refl _ _) _) (boxed_at rfl rfl)
  have Q1 : Hid (WB.cell? ⟨W.heap.size + 1, 1, none⟩ = some (.bool o')) := by rw [hWB]; exact boxed_at hn2 rfl
  have P2 : Hid (WB.cell? ⟨W.heap.size, 2, none⟩ = some (.bool a)) := by rw [hWB]; exact cell_keep (kept_alloc (Below.refl _ _) _) (boxed_at rfl rfl)
  have Q2 : Hid (WB.cell? ⟨W.heap.size + 1, 2, none⟩ = some (.bool a')) := by rw [hWB]; exact boxed_at hn2 rfl
  have P3 : Hid (WB.cell? ⟨W.heap.size, 3, none⟩ = some (.bool b)) := by rw [hWB]; exact cell_keep (kept_alloc (Below.refl _ _) _) (boxed_at rfl rfl)
  have Q3 : Hid (WB.cell? ⟨W.heap.size + 1, 3, none⟩ = some (.bool b')) := by rw [hWB]; exact boxed_at hn2 rfl
  have P4 : Hid (WB.cell? ⟨W.heap.size, 4, none⟩ = some (.bool e)) := by rw [hWB]; exact cell_keep (kept_alloc (Below.refl _ _) _) (boxed_at rfl rfl)
  have Q4 : Hid (WB.cell? ⟨W.heap.size + 1, 4, none⟩ = some (.bool e')) := by rw [hWB]; exact boxed_at hn2 rfl
  rw [← hWB] at KB
  have HWB := Lib.hid hWB
  clear hWB hn2 KA
  have HO0 := Lib.hid (fun w h => s_l13Ok m W.heap.size 0 w h)
  have HO1 := Lib.hid (fun w h => s_l13Ok m' (W.heap.size + 1) 0 w h)
  rw [h0] at HO0
  rw [h1] at HO1
  go_enter Try.func49, Try.ntmps49
  go_upto_region 1 with (fail)
  rw [← HWB.out]
  go_wp2_with (first | (go_at_call 83; refine (HO0.out _ P0.out).mono ?_; rintro e w' ⟨rfl, rfl⟩) | (go_at_call 83; refine (HO1.out _ Q0.out).mono ?_; rintro e w' ⟨rfl, rfl⟩))
  go_ret2
  exact ⟨rfl, KB⟩

set_option maxHeartbeats 800000 in
theorem i_WayTo_no1 (m : Int) (o a b e : Bool) (m' : Int) (o' a' b' e' : Bool) (W : World) (h0 : inB m 0 4 = true) (h1 : inB m' 0 4 = false) : Calls Try.prog 50 #[.agg #[.int .i64 m, .bool o, .bool a, .bool b, .bool e], .agg #[.int .i64 m', .bool o', .bool a', .bool b', .bool e']] W fun en W' => en = .returned (.tuple #[.slice none 0 0, .int .i64 1]) ∧ Below W.heap.size W W' := by
  have KA := kept_alloc (Below.refl W.heap.size W) (.cells #[.int .i64 m, .bool o, .bool a, .bool b, .bool e] 53)
  have KB := kept_alloc KA (.cells #[.int .i64 m', .bool o', .bool a', .bool b', .bool e'] 53)
  have hn2 : (W.alloc (.cells #[.int .i64 m, .bool o, .bool a, .bool b, .bool e] 53)).heap.size = W.heap.size + 1 := by simp
  obtain ⟨WB, hWB⟩ : ∃ WB, WB = (W.alloc (.cells #[.int .i64 m, .bool o, .bool a, .bool b, .bool e] 53)).alloc (.cells #[.int .i64 m', .bool o', .bool a', .bool b', .bool e'] 53) := ⟨_, rfl⟩
  have P0 : Hid (WB.cell? ⟨W.heap.size, 0, none⟩ = some (.int .i64 m)) := by rw [hWB]; exact cell_keep (kept_alloc (Below.refl _ _) _) (boxed_at rfl rfl)
  have Q0 : Hid (WB.cell? ⟨W.heap.size + 1, 0, none⟩ = some (.int .i64 m')) := by rw [hWB]; exact boxed_at hn2 rfl
  have P1 : Hid (WB.cell? ⟨W.heap.size, 1, none⟩ = some (.bool o)) := by rw [hWB]; exact cell_keep (kept_alloc (Below.refl _ _) _) (boxed_at rfl rfl)
  have Q1 : Hid (WB.cell? ⟨W.heap.size + 1, 1, none⟩ = some (.bool o')) := by rw [hWB]; exact boxed_at hn2 rfl
  have P2 : Hid (WB.cell? ⟨W.heap.size, 2, none⟩ = some (.bool a)) := by rw [hWB]; exact cell_keep (kept_alloc (Below.refl _ _) _) (boxed_at rfl rfl)
  have Q2 : Hid (WB.cell? ⟨W.heap.size + 1, 2, none⟩ = some (.bool a')) := by rw [hWB]; exact boxed_at hn2 rfl
  have P3 : Hid (WB.cell? ⟨W.heap.size, 3, none⟩ = some (.bool b)) := by rw [hWB]; exact cell_keep (kept_alloc (Below.refl _ _) _) (boxed_at rfl rfl)
  have Q3 : Hid (WB.cell? ⟨W.heap.size + 1, 3, none⟩ = some (.bool b')) := by rw [hWB]; exact boxed_at hn2 rfl
  have P4 : Hid (WB.cell? ⟨W.heap.size, 4, none⟩ = some (.bool e)) := by rw [hWB]; exact cell_keep (kept_alloc (Below.refl _ _) _) (boxed_at rfl rfl)
  have Q4 : Hid (WB.cell? ⟨W.heap.size + 1, 4, none⟩ = some (.bool e')) := by rw [hWB]; exact boxed_at hn2 rfl
  rw [← hWB] at KB
  have HWB := Lib.hid hWB
  clear hWB hn2 KA
  have HO0 := Lib.hid (fun w => i_ValidControl m o a b e w)
  have HO1 := Lib.hid (fun w => i_ValidControl m' o' a' b' e' w)
  rw [h0] at HO0
  rw [h1] at HO1
  go_enter Try.func50, Try.ntmps50
  go_upto_region 1 with (fail)
  rw [← HWB.out]
  have p0 := P0.out
  have p1 := P1.out
  have p2 := P2.out
  have p3 := P3.out
  have p4 := P4.out
  go_wp2_with (first | (go_at_call 86; have _two := tok1; refine (HO1.out _).mono ?_; rintro e w3 ⟨rfl, hb3⟩) | (go_at_call 86; refine (HO0.out _).mono ?_; rintro e w2 ⟨rfl, hb2⟩; have tok1 : True := trivial; have q0 := cell_keep hb2 Q0.out; have q1 := cell_keep hb2 Q1.out; have q2 := cell_keep hb2 Q2.out; have q3 := cell_keep hb2 Q3.out; have q4 := cell_keep hb2 Q4.out))
  go_ret2
  exact ⟨rfl, kept_trans (kept_trans KB hb2) hb3⟩

set_option maxHeartbeats 1600000 in
theorem s_WayTo_nf (x y : Nat) (W : World) (hx : x < 80) (hy : y < 80) (hh : hasN (R x) y = false) : Calls Try.prog 49 #[.agg #[.int .i64 (cm x : Nat), .bool (co x), .bool (ca x), .bool (cb x), .bool (ce x)], .agg #[.int .i64 (cm y : Nat), .bool (co y), .bool (ca y), .bool (cb y), .bool (ce y)]] W fun en W' => en = .returned (.tuple #[.slice none 0 0, .int .i64 3]) ∧ Below W.heap.size W W' := by
  have KA := kept_alloc (Below.refl W.heap.size W) (.cells #[.int .i64 (cm x : Nat), .bool (co x), .bool (ca x), .bool (cb x), .bool (ce x)] 53)
  have KB := kept_alloc KA (.cells #[.int .i64 (cm y : Nat), .bool (co y), .bool (ca y), .bool (cb y), .bool (ce y)] 53)
  have hn2 : (W.alloc (.cells #[.int .i64 (cm x : Nat), .bool (co x), .bool (ca x), .bool (cb x), .bool (ce x)] 53)).heap.size = W.heap.size + 1 := by simp
  obtain ⟨WB, hWB⟩ : ∃ WB, WB = (W.alloc (.cells #[.int .i64 (cm x : Nat), .bool (co x), .bool (ca x), .bool (cb x), .bool (ce x)] 53)).alloc (.cells #[.int .i64 (cm y : Nat), .bool (co y), .bool (ca y), .bool (cb y), .bool (ce y)] 53) := ⟨_, rfl⟩
  have P0 : Hid (WB.cell? ⟨W.heap.size, 0, none⟩ = some (.int .i64 (cm x : Nat))) := by rw [hWB]; exact cell_keep (kept_alloc (Below.refl _ _) _) (boxed_at rfl rfl)
  have Q0 : Hid (WB.cell? ⟨W.heap.size + 1, 0, none⟩ = some (.int .i64 (cm y : Nat))) := by rw [hWB]; exact boxed_at hn2 rfl
  have P1 : Hid (WB.cell? ⟨W.heap.size, 1, none⟩ = some (.bool (co x))) := by rw [hWB]; exact cell_keep (kept_alloc (Below.refl _ _) _) (boxed_at rfl rfl)
  have Q1 : Hid (WB.cell? ⟨W.heap.size + 1, 1, none⟩ = some (.bool (co y))) := by rw [hWB]; exact boxed_at hn2 rfl
  have P2 : Hid (WB.cell? ⟨W.heap.size, 2, none⟩ = some (.bool (ca x))) := by rw [hWB]; exact cell_keep (kept_alloc (Below.refl _ _) _) (boxed_at rfl rfl)
  have Q2 : Hid (WB.cell? ⟨W.heap.size + 1, 2, none⟩ = some (.bool (ca y))) := by rw [hWB]; exact boxed_at hn2 rfl
  have P3 : Hid (WB.cell? ⟨W.heap.size, 3, none⟩ = some (.bool (cb x))) := by rw [hWB]; exact cell_keep (kept_alloc (Below.refl _ _) _) (boxed_at rfl rfl)
  have Q3 : Hid (WB.cell? ⟨W.heap.size + 1, 3, none⟩ = some (.bool (cb y))) := by rw [hWB]; exact boxed_at hn2 rfl
  have P4 : Hid (WB.cell? ⟨W.heap.size, 4, none⟩ = some (.bool (ce x))) := by rw [hWB]; exact cell_keep (kept_alloc (Below.refl _ _) _) (boxed_at rfl rfl)
  have Q4 : Hid (WB.cell? ⟨W.heap.size + 1, 4, none⟩ = some (.bool (ce y))) := by rw [hWB]; exact boxed_at hn2 rfl
  rw [← hWB] at KB
  have HWB := Lib.hid hWB
  clear hWB hn2 KA
  have hm0 : inB (cm x : Nat) 0 4 = true := inB_yes (by omega) (by have := cm_lt hx; omega)
  have hm1 : inB (cm y : Nat) 0 4 = true := inB_yes (by omega) (by have := cm_lt hy; omega)
  have hR20 : (R x).length ≤ 20 := (chk0_out hx).2.2.1
  have hR1 := R_pos hx
  have HLO := Lib.hid (R_low hx)
  unfold low80 at HLO
  have hfi := fi_hasnt hh
  have HO0 := Lib.hid (fun w h => s_l13Ok (cm x : Nat) W.heap.size 0 w h)
  have HO1 := Lib.hid (fun w h => s_l13Ok (cm y : Nat) (W.heap.size + 1) 0 w h)
  rw [hm0] at HO0
  rw [hm1] at HO1
  have HRc := Lib.hid (fun w => s_l15Reached x w hx)
  unfold SReachPost at HRc
  have HMv := Lib.hid (fun v w h => s_l15Moves x v w hx h)
  unfold SMovesPost at HMv
  clear hm0 hm1 hh
  generalize M x = ms at *
  generalize R x = L at *
  obtain ⟨n, hn⟩ : ∃ n, ms.length = n := ⟨_, rfl⟩
  obtain ⟨nL, hnL⟩ : ∃ n, L.length = n := ⟨_, rfl⟩
  rw [hn] at HMv
  rw [hnL] at HRc HMv hR20 HLO hR1
  have HX := Lib.hid (fun w v hs => s_l15Find v nL y L w hs hnL (by omega) hy HLO)
  rw [hfi] at HX
  clear hn hnL hfi
  go_enter Try.func49, Try.ntmps49
  go_upto_region 1 with (fail)
  rw [← HWB.out]
  have p0 := P0.out
  have p1 := P1.out
  have p2 := P2.out
  have p3 := P3.out
  have p4 := P4.out
  go_wp2_with (first | (go_at_call 83; refine (HO0.out _ P0.out).mono ?_; rintro e w' ⟨rfl, rfl⟩) | (go_at_call 83; refine (HO1.out _ Q0.out).mono ?_; rintro e w' ⟨rfl, rfl⟩) | (go_at_call 85; refine (HRc.out _).mono ?_; rintro e w3 ⟨v1, rfl, hb3, ho1⟩) | (go_at_call 84; refine (HMv.out _ _ (ho1.sl (by omega))).mono ?_; rintro e w4 ⟨v2, rfl, hb4, ho2⟩; have hk4 := kept_trans hb3 hb4; have q0 := cell_keep hk4 Q0.out; have q1 := cell_keep hk4 Q1.out; have q2 := cell_keep hk4 Q2.out; have q3 := cell_keep hk4 Q3.out; have q4 := cell_keep hk4 Q4.out) | (go_at_call 92; refine (HX.out _ _ ((ho1.sl (by omega)).kept hb4)).mono ?_; rintro e w5 ⟨rfl, hb5⟩))
  go_ret2
  exact ⟨rfl, kept_trans (kept_trans KB hk4) hb5⟩

set_option maxHeartbeats 1600000 in
theorem i_WayTo_nf (x y : Nat) (W : World) (hx : x < 80) (hy : y < 80) (hh : hasN (R x) y = false) : Calls Try.prog 50 #[.agg #[.int .i64 (cm x : Nat), .bool (co x), .bool (ca x), .bool (cb x), .bool (ce x)], .agg #[.int .i64 (cm y : Nat), .bool (co y), .bool (ca y), .bool (cb y), .bool (ce y)]] W fun en W' => en = .returned (.tuple #[.slice none 0 0, .int .i64 3]) ∧ Below W.heap.size W W' := by
  have KA := kept_alloc (Below.refl W.heap.size W) (.cells #[.int .i64 (cm x : Nat), .bool (co x), .bool (ca x), .bool (cb x), .bool (ce x)] 53)
  have KB := kept_alloc KA (.cells #[.int .i64 (cm y : Nat), .bool (co y), .bool (ca y), .bool (cb y), .bool (ce y)] 53)
  have hn2 : (W.alloc (.cells #[.int .i64 (cm x : Nat), .bool (co x), .bool (ca x), .bool (cb x), .bool (ce x)] 53)).heap.size = W.heap.size + 1 := by simp
  obtain ⟨WB, hWB⟩ : ∃ WB, WB = (W.alloc (.cells #[.int .i64 (cm x : Nat), .bool (co x), .bool (ca x), .bool (cb x), .bool (ce x)] 53)).alloc (.cells #[.int .i64 (cm y : Nat), .bool (co y), .bool (ca y), .bool (cb y), .bool (ce y)] 53) := ⟨_, rfl⟩
  have P0 : Hid (WB.cell? ⟨W.heap.size, 0, none⟩ = some (.int .i64 (cm x : Nat))) := by rw [hWB]; exact cell_keep (kept_alloc (Below.refl _ _) _) (boxed_at rfl rfl)
  have Q0 : Hid (WB.cell? ⟨W.heap.size + 1, 0, none⟩ = some (.int .i64 (cm y : Nat))) := by rw [hWB]; exact boxed_at hn2 rfl
  have P1 : Hid (WB.cell? ⟨W.heap.size, 1, none⟩ = some (.bool (co x))) := by rw [hWB]; exact cell_keep (kept_alloc (Below.refl _ _) _) (boxed_at rfl rfl)
  have Q1 : Hid (WB.cell? ⟨W.heap.size + 1, 1, none⟩ = some (.bool (co y))) := by rw [hWB]; exact boxed_at hn2 rfl
  have P2 : Hid (WB.cell? ⟨W.heap.size, 2, none⟩ = some (.bool (ca x))) := by rw [hWB]; exact cell_keep (kept_alloc (Below.refl _ _) _) (boxed_at rfl rfl)
  have Q2 : Hid (WB.cell? ⟨W.heap.size + 1, 2, none⟩ = some (.bool (ca y))) := by rw [hWB]; exact boxed_at hn2 rfl
  have P3 : Hid (WB.cell? ⟨W.heap.size, 3, none⟩ = some (.bool (cb x))) := by rw [hWB]; exact cell_keep (kept_alloc (Below.refl _ _) _) (boxed_at rfl rfl)
  have Q3 : Hid (WB.cell? ⟨W.heap.size + 1, 3, none⟩ = some (.bool (cb y))) := by rw [hWB]; exact boxed_at hn2 rfl
  have P4 : Hid (WB.cell? ⟨W.heap.size, 4, none⟩ = some (.bool (ce x))) := by rw [hWB]; exact cell_keep (kept_alloc (Below.refl _ _) _) (boxed_at rfl rfl)
  have Q4 : Hid (WB.cell? ⟨W.heap.size + 1, 4, none⟩ = some (.bool (ce y))) := by rw [hWB]; exact boxed_at hn2 rfl
  rw [← hWB] at KB
  have HWB := Lib.hid hWB
  clear hWB hn2 KA
  have hm0 : inB (cm x : Nat) 0 4 = true := inB_yes (by omega) (by have := cm_lt hx; omega)
  have hm1 : inB (cm y : Nat) 0 4 = true := inB_yes (by omega) (by have := cm_lt hy; omega)
  have hR20 : (R x).length ≤ 20 := (chk0_out hx).2.2.1
  have hR1 := R_pos hx
  have HLO := Lib.hid (R_low hx)
  unfold low80 at HLO
  have hfi := fi_hasnt hh
  have HO0 := Lib.hid (fun w => i_ValidControl (cm x : Nat) (co x) (ca x) (cb x) (ce x) w)
  have HO1 := Lib.hid (fun w => i_ValidControl (cm y : Nat) (co y) (ca y) (cb y) (ce y) w)
  rw [hm0] at HO0
  rw [hm1] at HO1
  have HRc := Lib.hid (fun w => i_reached x w hx)
  unfold ReachPost at HRc
  clear hm0 hm1 hh
  generalize M x = ms at *
  generalize R x = L at *
  obtain ⟨n, hn⟩ : ∃ n, ms.length = n := ⟨_, rfl⟩
  obtain ⟨nL, hnL⟩ : ∃ n, L.length = n := ⟨_, rfl⟩
  rw [hn] at HRc
  rw [hnL] at HRc hR20 HLO hR1
  have HX := Lib.hid (fun w v hs => i_Index v nL y L w hs hnL (by omega) hy HLO)
  rw [hfi] at HX
  clear hn hnL hfi
  go_enter Try.func50, Try.ntmps50
  go_upto_region 1 with (fail)
  rw [← HWB.out]
  have p0 := P0.out
  have p1 := P1.out
  have p2 := P2.out
  have p3 := P3.out
  have p4 := P4.out
  go_wp2_with (first | (go_at_call 86; have _two := tok1; refine (HO1.out _).mono ?_; rintro e w3 ⟨rfl, hb3⟩; have hk3 := kept_trans hb2 hb3; have p0 := cell_keep hk3 P0.out; have p1 := cell_keep hk3 P1.out; have p2 := cell_keep hk3 P2.out; have p3 := cell_keep hk3 P3.out; have p4 := cell_keep hk3 P4.out) | (go_at_call 86; refine (HO0.out _).mono ?_; rintro e w2 ⟨rfl, hb2⟩; have tok1 : True := trivial; have q0 := cell_keep hb2 Q0.out; have q1 := cell_keep hb2 Q1.out; have q2 := cell_keep hb2 Q2.out; have q3 := cell_keep hb2 Q3.out; have q4 := cell_keep hb2 Q4.out) | (go_at_call 87; refine (HRc.out _).mono ?_; rintro e w4 ⟨v1, v2, rfl, hb4, ho1, ho2⟩; have hk4 := kept_trans hk3 hb4; have q0 := cell_keep hk4 Q0.out; have q1 := cell_keep hk4 Q1.out; have q2 := cell_keep hk4 Q2.out; have q3 := cell_keep hk4 Q3.out; have q4 := cell_keep hk4 Q4.out) | (go_at_call 94; refine (HX.out _ _ (ho1.sl (by omega))).mono ?_; rintro e w5 ⟨rfl, hb5⟩))
  go_ret2
  exact ⟨rfl, kept_alloc (kept_trans (kept_trans KB hk4) hb5) _⟩

theorem evL_rev (ms : List (Nat × Nat × Nat)) (P : List Nat) : evL ms P.reverse = (evL ms P).reverse := by simp [evL]

theorem l_WayTo (m : Int) (o a b e : Bool) (m' : Int) (o' a' b' e' : Bool) (W : World) : Calls Try.prog 10 #[.agg #[.int .i64 m, .bool o, .bool a, .bool b, .bool e], .agg #[.int .i64 m', .bool o', .bool a', .bool b', .bool e']] W (Truly W) := by
  cases hm : inB m 0 4
  · exact l_WayTo_of m o a b e m' o' a' b' e' 0 (fun _ => 0) (by omega) 1
      (fun w => (s_WayTo_no0 m o a b e m' o' a' b' e' w hm).mono fun _ _ ⟨h1, h2⟩ => ⟨_, h1, h2, Out.nil _ _ _ _ _⟩)
      (fun w => (i_WayTo_no0 m o a b e m' o' a' b' e' w hm).mono fun _ _ ⟨h1, h2⟩ => ⟨_, h1, h2, Out.nil _ _ _ _ _⟩)
  · cases hm' : inB m' 0 4
    · exact l_WayTo_of m o a b e m' o' a' b' e' 0 (fun _ => 0) (by omega) 1
        (fun w => (s_WayTo_no1 m o a b e m' o' a' b' e' w hm hm').mono fun _ _ ⟨h1, h2⟩ => ⟨_, h1, h2, Out.nil _ _ _ _ _⟩)
        (fun w => (i_WayTo_no1 m o a b e m' o' a' b' e' w hm hm').mono fun _ _ ⟨h1, h2⟩ => ⟨_, h1, h2, Out.nil _ _ _ _ _⟩)
    · obtain ⟨h0, h4⟩ := inB_out hm
      obtain ⟨h0', h4'⟩ := inB_out hm'
      obtain ⟨c, hc, rfl, rfl, rfl, rfl, rfl⟩ := st_code (o := o) (a := a) (b := b) (e := e) h0 h4
      obtain ⟨y, hy, rfl, rfl, rfl, rfl, rfl⟩ := st_code (o := o') (a := a') (b := b') (e := e') h0' h4'
      cases hh : hasN (R c) y
      · exact l_WayTo_of _ _ _ _ _ _ _ _ _ _ 0 (fun _ => 0) (by omega) 3
          (fun w => (s_WayTo_nf c y w hc hy hh).mono fun _ _ ⟨h1, h2⟩ => ⟨_, h1, h2, Out.nil _ _ _ _ _⟩)
          (fun w => (i_WayTo_nf c y w hc hy hh).mono fun _ _ ⟨h1, h2⟩ => ⟨_, h1, h2, Out.nil _ _ _ _ _⟩)
      · obtain ⟨h1, h2, h3⟩ := chkW_out hc (idx_lt hh)
        refine l_WayTo_of _ _ _ _ _ _ _ _ _ _ (evL (M c) (pathI (M c) 21 (idxN (R c) y))).reverse.length (fun j => (nth (evL (M c) (pathI (M c) 21 (idxN (R c) y))).reverse j : Int)) ?_ 0 (fun w => ?_) (fun w => ?_)
        · simp only [List.length_reverse, evL, List.length_map]; omega
        · have h := s_WayTo_yes c y (idxN (R c) y) (pathI (M c) 21 (idxN (R c) y)).reverse w hc hy hh rfl h3 (by simpa using h1)
          rw [evL_rev] at h
          exact h
        · exact i_WayTo_yes c y (idxN (R c) y) (pathI (M c) 21 (idxN (R c) y)) w hc hy hh rfl h2 h1

end Go.Proofs.Ytkloolhngddpiaa
