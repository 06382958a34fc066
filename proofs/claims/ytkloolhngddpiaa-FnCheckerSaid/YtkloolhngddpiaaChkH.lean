/- The laws' helpers on slices of moves and of states. -/
import Derived.Test.YtkloolhngddpiaaChkC
namespace Go.Proofs.Ytkloolhngddpiaa
open Go.RowKit Go.Deep
set_option linter.unusedVariables false
set_option maxRecDepth 100000

theorem l_eqMove (a b c : Int) (W : World) : Calls Try.prog 88 #[.agg #[.int .i64 a, .int .i64 b, .int .i64 c], .agg #[.int .i64 a, .int .i64 b, .int .i64 c]] W fun e W' => e = .returned (.bool true) ∧ Below W.heap.size W W' := by
  go_enter Try.func88, Try.ntmps88
  go_wp2
  go_ret
  exact ⟨rfl, (by repeat (first | assumption | exact Below.refl _ _ | refine kept_drew ?_ | refine kept_drewN ?_ _ | refine kept_alloc ?_ _ | refine kept_set ?_ ?_ _ | (simp; done) | (simp; omega) | refine kept_trans ?_ (by assumption)))⟩

theorem eqMoveS_any (va vb : Value) (n : Nat) (L : List (Nat × Nat × Nat)) (W : World) (ha : Sl W va 3 n (mvc L)) (hb : Sl W vb 3 n (mvc L)) :
    Calls Try.prog 39 #[va, vb] W fun e W' => e = .returned (.bool true) ∧ Below W.heap.size W W' := by
  obtain ⟨hn, ao, cap, rfl, ha⟩ := ha
  obtain ⟨-, bo, cap', rfl, hb⟩ := hb
  rcases ha with h0 | ⟨g, off, rfl, hr⟩
  · have h0' : n ≤ 0 := by omega
    clear h0
    go_enter Try.func39, Try.ntmps39
    go_wp2
    refine wp_loop_rounds 1 ?_
    rw [rounds_succ]
    go_wp2
    go_ret
    exact ⟨rfl, (by repeat (first | assumption | exact Below.refl _ _ | refine kept_drew ?_ | refine kept_drewN ?_ _ | refine kept_alloc ?_ _ | refine kept_set ?_ ?_ _ | (simp; done) | (simp; omega) | refine kept_trans ?_ (by assumption)))⟩
  · rcases hb with h0 | ⟨g', off', rfl, hr'⟩
    · have h0' : n ≤ 0 := by omega
      clear h0
      go_enter Try.func39, Try.ntmps39
      go_wp2
      refine wp_loop_rounds 1 ?_
      rw [rounds_succ]
      go_wp2
      go_ret
      exact ⟨rfl, (by repeat (first | assumption | exact Below.refl _ _ | refine kept_drew ?_ | refine kept_drewN ?_ _ | refine kept_alloc ?_ _ | refine kept_set ?_ ?_ _ | (simp; done) | (simp; omega) | refine kept_trans ?_ (by assumption)))⟩
    · go_enter Try.func39, Try.ntmps39
      go_wp2
      go_loopw [5] (fun i wr => ∃ k : Nat, k ≤ n ∧ i = .int .i64 k ∧ Below W.heap.size W wr) (fun i _ => n - (intOf i).toNat)
      case atStart => exact ⟨0, Nat.zero_le _, rfl, (by repeat (first | assumption | exact Below.refl _ _ | refine kept_drew ?_ | refine kept_drewN ?_ _ | refine kept_alloc ?_ _ | refine kept_set ?_ ?_ _ | (simp; done) | (simp; omega) | refine kept_trans ?_ (by assumption)))⟩
      case round =>
        obtain ⟨k, hk, rfl, hb⟩ := hrel
        by_cases hlt : k < n
        · obtain ⟨f, e, t, hc⟩ : ∃ f e t, nthM L k = (f, e, t) := ⟨_, _, _, rfl⟩
          obtain ⟨hs0, hs1, hs2⟩ := mvcells (hr.kept hb) hlt hc
          obtain ⟨ht0, ht1, ht2⟩ := mvcells (hr'.kept hb) hlt hc
          clear hr hr' hc
          have k0 := cell_regrown hs0
          have k1 := cell_regrown hs1
          have k2 := cell_regrown hs2
          have k3 := cell_regrown ht0
          have k4 := cell_regrown ht1
          have k5 := cell_regrown ht2
          go_wp2_with fail
          refine wp_region_quiet_below (by kernel_rfl) (by kernel_rfl) ?_
          repeat (go_big_quiet_step ((first | (go_at_call 88; exact Calls.regrown_of (l_eqMove _ _ _ _)))))
          refine wpQuiet_nil ?_
          intro w2 hw2
          have hk := below_of_regrown hw2
          clear hw2 k0 k1 k2 k3 k4 k5
          obtain ⟨hc, hf⟩ := bcell hk
          have hz := hk.size
          try simp at hz
          go_wp2_with fail
          go_roundw
          case rel => exact ⟨k + 1, by omega, by go_num, kept_trans hb hk⟩
          case measure => simp [intOf]; omega
        · go_wp2
          go_ret
          exact ⟨rfl, hb⟩

theorem eqStateS_any (va vb : Value) (n : Nat) (L : List Nat) (W : World) (ha : Sl W va 5 n (stc L)) (hb : Sl W vb 5 n (stc L)) :
    Calls Try.prog 44 #[va, vb] W fun e W' => e = .returned (.bool true) ∧ Below W.heap.size W W' := by
  obtain ⟨hn, ao, cap, rfl, ha⟩ := ha
  obtain ⟨-, bo, cap', rfl, hb⟩ := hb
  rcases ha with h0 | ⟨g, off, rfl, hr⟩
  · have h0' : n ≤ 0 := by omega
    clear h0
    go_enter Try.func44, Try.ntmps44
    go_wp2
    refine wp_loop_rounds 1 ?_
    rw [rounds_succ]
    go_wp2
    go_ret
    exact ⟨rfl, (by repeat (first | assumption | exact Below.refl _ _ | refine kept_drew ?_ | refine kept_drewN ?_ _ | refine kept_alloc ?_ _ | refine kept_set ?_ ?_ _ | (simp; done) | (simp; omega) | refine kept_trans ?_ (by assumption)))⟩
  · rcases hb with h0 | ⟨g', off', rfl, hr'⟩
    · have h0' : n ≤ 0 := by omega
      clear h0
      go_enter Try.func44, Try.ntmps44
      go_wp2
      refine wp_loop_rounds 1 ?_
      rw [rounds_succ]
      go_wp2
      go_ret
      exact ⟨rfl, (by repeat (first | assumption | exact Below.refl _ _ | refine kept_drew ?_ | refine kept_drewN ?_ _ | refine kept_alloc ?_ _ | refine kept_set ?_ ?_ _ | (simp; done) | (simp; omega) | refine kept_trans ?_ (by assumption)))⟩
    · go_enter Try.func44, Try.ntmps44
      go_wp2
      go_loopw [5] (fun i wr => ∃ k : Nat, k ≤ n ∧ i = .int .i64 k ∧ Below W.heap.size W wr) (fun i _ => n - (intOf i).toNat)
      case atStart => exact ⟨0, Nat.zero_le _, rfl, (by repeat (first | assumption | exact Below.refl _ _ | refine kept_drew ?_ | refine kept_drewN ?_ _ | refine kept_alloc ?_ _ | refine kept_set ?_ ?_ _ | (simp; done) | (simp; omega) | refine kept_trans ?_ (by assumption)))⟩
      case round =>
        obtain ⟨k, hk, rfl, hb⟩ := hrel
        by_cases hlt : k < n
        · obtain ⟨c, hc⟩ : ∃ c, nth L k = c := ⟨_, rfl⟩
          obtain ⟨hs0, hs1, hs2, hs3, hs4⟩ := stcells (hr.kept hb) hlt hc
          obtain ⟨ht0, ht1, ht2, ht3, ht4⟩ := stcells (hr'.kept hb) hlt hc
          clear hr hr' hc
          have k0 := cell_regrown hs0
          have k1 := cell_regrown hs1
          have k2 := cell_regrown hs2
          have k3 := cell_regrown hs3
          have k4 := cell_regrown hs4
          have k5 := cell_regrown ht0
          have k6 := cell_regrown ht1
          have k7 := cell_regrown ht2
          have k8 := cell_regrown ht3
          have k9 := cell_regrown ht4
          go_wp2_with fail
          refine wp_region_quiet_below (by kernel_rfl) (by kernel_rfl) ?_
          repeat (go_big_quiet_step ((first | (go_at_call 89; exact Calls.regrown_of (l_eqState _ _ _ _ _ _)))))
          refine wpQuiet_nil ?_
          intro w2 hw2
          have hk := below_of_regrown hw2
          clear hw2 k0 k1 k2 k3 k4 k5 k6 k7 k8 k9
          obtain ⟨hc, hf⟩ := bcell hk
          have hz := hk.size
          try simp at hz
          go_wp2_with fail
          go_roundw
          case rel => exact ⟨k + 1, by omega, by go_num, kept_trans hb hk⟩
          case measure => simp [intOf]; omega
        · go_wp2
          go_ret
          exact ⟨rfl, hb⟩

/-- The marks of states: a number, then whether numbers divide by three. -/
def smarks (q : Int) : Nat → Value := fun j => if j % 5 = 0 then .int .i64 (q + j) else .bool ((q + j) % 3 == 0)
theorem smarks_0 (q : Int) (k : Nat) : smarks q (k * 5) = .int .i64 (q + 5 * k) := by unfold smarks; rw [if_pos (by omega), show q + ((k * 5 : Nat) : Int) = q + 5 * k by omega]
theorem smarks_1 (q : Int) (k : Nat) : smarks q (k * 5 + 1) = .bool ((q + 5 * k + 1) % 3 == 0) := by unfold smarks; rw [if_neg (by omega), show q + ((k * 5 + 1 : Nat) : Int) = q + 5 * k + 1 by omega]
theorem smarks_2 (q : Int) (k : Nat) : smarks q (k * 5 + 2) = .bool ((q + 5 * k + 1 + 1) % 3 == 0) := by unfold smarks; rw [if_neg (by omega), show q + ((k * 5 + 2 : Nat) : Int) = q + 5 * k + 1 + 1 by omega]
theorem smarks_3 (q : Int) (k : Nat) : smarks q (k * 5 + 3) = .bool ((q + 5 * k + 1 + 1 + 1) % 3 == 0) := by unfold smarks; rw [if_neg (by omega), show q + ((k * 5 + 3 : Nat) : Int) = q + 5 * k + 1 + 1 + 1 by omega]
theorem smarks_4 (q : Int) (k : Nat) : smarks q (k * 5 + 4) = .bool ((q + 5 * k + 1 + 1 + 1 + 1) % 3 == 0) := by unfold smarks; rw [if_neg (by omega), show q + ((k * 5 + 4 : Nat) : Int) = q + 5 * k + 1 + 1 + 1 + 1 by omega]
attribute [irreducible] smarks

theorem heldMoveS_any (v : Value) (n : Nat) (q : Int) (W : World) (h : Sl W v 3 n (marks q)) (hq : 0 ≤ q) (hq' : q ≤ 4611686018427387904) :
    Calls Try.prog 41 #[v, .int .i64 q] W fun e W' => e = .returned (.int .i64 (q + 3 * n)) ∧ Below W.heap.size W W' := by
  obtain ⟨hn, ao, cap, rfl, h⟩ := h
  rcases h with h0 | ⟨g, off, rfl, hr⟩
  · have h0' : n ≤ 0 := by omega
    clear h0
    go_enter Try.func41, Try.ntmps41
    go_wp2
    refine wp_loop_rounds 1 ?_
    rw [rounds_succ]
    go_wp2
    go_ret
    exact ⟨ret_int (by omega), (by repeat (first | assumption | exact Below.refl _ _ | refine kept_drew ?_ | refine kept_drewN ?_ _ | refine kept_alloc ?_ _ | refine kept_set ?_ ?_ _ | (simp; done) | (simp; omega) | refine kept_trans ?_ (by assumption)))⟩
  · go_enter Try.func41, Try.ntmps41
    go_wp2
    go_loop [1, 5] (fun a i => ∃ k : Nat, k ≤ n ∧ i = .int .i64 k ∧ a = .int .i64 (q + 3 * k)) (fun _ i => n - (intOf i).toNat)
    case atStart => exact ⟨0, Nat.zero_le _, rfl, by simp⟩
    case round =>
      obtain ⟨k, hk, rfl, rfl⟩ := hrel
      by_cases hlt : k < n
      · skip
        have hs0 := hr.cell (i := k * 3) (by omega)
        have hs1 := hr.cell (i := k * 3 + 1) (by omega)
        have hs2 := hr.cell (i := k * 3 + 2) (by omega)
        simp only [marks] at hs0 hs1 hs2
        rw [show q + ((k * 3 : Nat) : Int) = q + 3 * k by omega] at hs0
        rw [show q + ((k * 3 + 1 : Nat) : Int) = q + 3 * k + 1 by omega] at hs1
        rw [show q + ((k * 3 + 2 : Nat) : Int) = q + 3 * k + 1 + 1 by omega] at hs2
        have ht1 : W.cell? ⟨g, off + k * 3 + 1, none⟩ = some (.int .i64 (q + 3 * k + 1)) := hs1
        have ht2 : W.cell? ⟨g, off + k * 3 + 2, none⟩ = some (.int .i64 (q + 3 * k + 1 + 1)) := hs2
        clear hr hs1 hs2
        go_wp2
        go_round
        case rel => exact ⟨k + 1, by omega, by go_num, congrArg (Value.int .i64) (by omega)⟩
        case measure => simp [intOf]; omega
      · go_wp2
        go_ret
        exact ⟨ret_int (by omega), (by repeat (first | assumption | exact Below.refl _ _ | refine kept_drew ?_ | refine kept_drewN ?_ _ | refine kept_alloc ?_ _ | refine kept_set ?_ ?_ _ | (simp; done) | (simp; omega) | refine kept_trans ?_ (by assumption)))⟩

set_option maxHeartbeats 800000 in
theorem markMoveS_any (v : Value) (n : Nat) (q : Int) (W : World) (h : Mine W v 3 n) (hq : 0 ≤ q) (hq' : q ≤ 4611686018427387904) :
    Calls Try.prog 40 #[v, .int .i64 q] W fun e W' => e = .returned (.int .i64 (q + 3 * n)) ∧ W.grownBy W' v.ownBlock ∧ Sl W' v 3 n (marks q) ∧ Mine W' v 3 n := by
  obtain ⟨hn, ao, cap, rfl, h⟩ := h
  rcases h with h0 | ⟨g, t, N, F, rfl, hr, hN⟩
  · have h0' : n ≤ 0 := by omega
    clear h0
    go_enter Try.func40, Try.ntmps40
    go_wp2
    refine wp_loop_rounds 1 ?_
    rw [rounds_succ]
    go_wp2
    go_ret
    exact ⟨ret_int (by omega), World.grownBy.refl _ _, ⟨hn, _, _, rfl, .inl (by omega)⟩, ⟨hn, _, _, rfl, .inl (by omega)⟩⟩
  · go_enter Try.func40, Try.ntmps40
    go_wp2
    go_loopw [1, 5] (fun a i wr => ∃ k : Nat, k ≤ n ∧ i = .int .i64 k ∧ a = .int .i64 (q + 3 * k) ∧ W.grownBy wr (some g) ∧ wr.rowIs g t N (over (k * 3) (marks q) F)) (fun _ i _ => n - (intOf i).toNat)
    case atStart => exact ⟨0, Nat.zero_le _, rfl, by simp, World.grownBy.refl _ _, hr.congr (fun i _ => by simp [over])⟩
    case round =>
      obtain ⟨k, hk, rfl, rfl, hg, hrow⟩ := hrel
      by_cases hlt : k < n
      · skip
        have hd0 := hrow.cell (i := k * 3) (by omega)
        have hf0 := hrow.frozen (k * 3)
        have hd1 := hrow.cell (i := k * 3 + 1) (by omega)
        have hf1 := hrow.frozen (k * 3 + 1)
        have hd2 := hrow.cell (i := k * 3 + 2) (by omega)
        have hf2 := hrow.frozen (k * 3 + 2)
        have R1 := over_set (u := .int .i64 (q + 3 * k)) hrow (by simp only [marks]; congr 1; omega)
        have R2 := over_set (u := .int .i64 (q + 3 * k + 1)) R1 (by simp only [marks]; congr 1; omega)
        have R3 := over_set (u := .int .i64 (q + 3 * k + 1 + 1)) R2 (by simp only [marks]; congr 1; omega)
        have RR := Lib.hid R3
        have BB := Lib.hid (grown_set (grown_set (grown_set hg (k * 3) (.int .i64 (q + 3 * k))) (k * 3 + 1) (.int .i64 (q + 3 * k + 1))) (k * 3 + 2) (.int .i64 (q + 3 * k + 1 + 1)))
        clear R1 R2 R3 hrow hg hr
        go_wp2
        go_roundw
        case rel => exact ⟨k + 1, by omega, by go_num, congrArg (Value.int .i64) (by omega), BB.out, by rw [show (k + 1) * 3 = k * 3 + 1 + 1 + 1 by omega]; exact RR.out⟩
        case measure => simp [intOf]; omega
      · obtain rfl : k = n := by omega
        have hs : Hid (Sl wr (.slice (some ⟨g, 0, none⟩) k cap) 3 k (marks q)) := Sl.of_row hn ((Row.of_rowIs hrow).sub (a := 0) (m := k * 3) (by omega) |>.congr (fun i hi => by rw [Nat.zero_add, over_lt hi]))
        have hm : Hid (Mine wr (.slice (some ⟨g, 0, none⟩) k cap) 3 k) := Mine.of_row hn hrow hN
        clear hr hrow
        go_wp2
        go_ret
        exact ⟨rfl, hg, hs.out, hm.out⟩

theorem heldStateS_any (v : Value) (n : Nat) (q : Int) (W : World) (h : Sl W v 5 n (smarks q)) (hq : 0 ≤ q) (hq' : q ≤ 4611686018427387904) :
    Calls Try.prog 46 #[v, .int .i64 q] W fun e W' => e = .returned (.int .i64 (q + 5 * n)) ∧ Below W.heap.size W W' := by
  obtain ⟨hn, ao, cap, rfl, h⟩ := h
  rcases h with h0 | ⟨g, off, rfl, hr⟩
  · have h0' : n ≤ 0 := by omega
    clear h0
    go_enter Try.func46, Try.ntmps46
    go_wp2
    refine wp_loop_rounds 1 ?_
    rw [rounds_succ]
    go_wp2
    go_ret
    exact ⟨ret_int (by omega), (by repeat (first | assumption | exact Below.refl _ _ | refine kept_drew ?_ | refine kept_drewN ?_ _ | refine kept_alloc ?_ _ | refine kept_set ?_ ?_ _ | (simp; done) | (simp; omega) | refine kept_trans ?_ (by assumption)))⟩
  · go_enter Try.func46, Try.ntmps46
    go_wp2
    go_loop [1, 5] (fun a i => ∃ k : Nat, k ≤ n ∧ i = .int .i64 k ∧ a = .int .i64 (q + 5 * k)) (fun _ i => n - (intOf i).toNat)
    case atStart => exact ⟨0, Nat.zero_le _, rfl, by simp⟩
    case round =>
      obtain ⟨k, hk, rfl, rfl⟩ := hrel
      by_cases hlt : k < n
      · skip
        have hs0 := hr.cell (i := k * 5) (by omega)
        have hs1 := hr.cell (i := k * 5 + 1) (by omega)
        have hs2 := hr.cell (i := k * 5 + 2) (by omega)
        have hs3 := hr.cell (i := k * 5 + 3) (by omega)
        have hs4 := hr.cell (i := k * 5 + 4) (by omega)
        rw [smarks_0] at hs0
        rw [smarks_1] at hs1
        rw [smarks_2] at hs2
        rw [smarks_3] at hs3
        rw [smarks_4] at hs4
        have ht1 : W.cell? ⟨g, off + k * 5 + 1, none⟩ = some (.bool ((q + 5 * k + 1) % 3 == 0)) := hs1
        have ht2 : W.cell? ⟨g, off + k * 5 + 2, none⟩ = some (.bool ((q + 5 * k + 1 + 1) % 3 == 0)) := hs2
        have ht3 : W.cell? ⟨g, off + k * 5 + 3, none⟩ = some (.bool ((q + 5 * k + 1 + 1 + 1) % 3 == 0)) := hs3
        have ht4 : W.cell? ⟨g, off + k * 5 + 4, none⟩ = some (.bool ((q + 5 * k + 1 + 1 + 1 + 1) % 3 == 0)) := hs4
        clear hr hs1 hs2 hs3 hs4
        go_wp2
        go_round
        case rel => exact ⟨k + 1, by omega, by go_num, congrArg (Value.int .i64) (by omega)⟩
        case measure => simp [intOf]; omega
      · go_wp2
        go_ret
        exact ⟨ret_int (by omega), (by repeat (first | assumption | exact Below.refl _ _ | refine kept_drew ?_ | refine kept_drewN ?_ _ | refine kept_alloc ?_ _ | refine kept_set ?_ ?_ _ | (simp; done) | (simp; omega) | refine kept_trans ?_ (by assumption)))⟩

set_option maxHeartbeats 800000 in
theorem markStateS_any (v : Value) (n : Nat) (q : Int) (W : World) (h : Mine W v 5 n) (hq : 0 ≤ q) (hq' : q ≤ 4611686018427387904) :
    Calls Try.prog 45 #[v, .int .i64 q] W fun e W' => e = .returned (.int .i64 (q + 5 * n)) ∧ W.grownBy W' v.ownBlock ∧ Sl W' v 5 n (smarks q) ∧ Mine W' v 5 n := by
  obtain ⟨hn, ao, cap, rfl, h⟩ := h
  rcases h with h0 | ⟨g, t, N, F, rfl, hr, hN⟩
  · have h0' : n ≤ 0 := by omega
    clear h0
    go_enter Try.func45, Try.ntmps45
    go_wp2
    refine wp_loop_rounds 1 ?_
    rw [rounds_succ]
    go_wp2
    go_ret
    exact ⟨ret_int (by omega), World.grownBy.refl _ _, ⟨hn, _, _, rfl, .inl (by omega)⟩, ⟨hn, _, _, rfl, .inl (by omega)⟩⟩
  · go_enter Try.func45, Try.ntmps45
    go_wp2
    go_loopw [1, 5] (fun a i wr => ∃ k : Nat, k ≤ n ∧ i = .int .i64 k ∧ a = .int .i64 (q + 5 * k) ∧ W.grownBy wr (some g) ∧ wr.rowIs g t N (over (k * 5) (smarks q) F)) (fun _ i _ => n - (intOf i).toNat)
    case atStart => exact ⟨0, Nat.zero_le _, rfl, by simp, World.grownBy.refl _ _, hr.congr (fun i _ => by simp [over])⟩
    case round =>
      obtain ⟨k, hk, rfl, rfl, hg, hrow⟩ := hrel
      by_cases hlt : k < n
      · skip
        have hd0 := hrow.cell (i := k * 5) (by omega)
        have hf0 := hrow.frozen (k * 5)
        have hd1 := hrow.cell (i := k * 5 + 1) (by omega)
        have hf1 := hrow.frozen (k * 5 + 1)
        have hd2 := hrow.cell (i := k * 5 + 2) (by omega)
        have hf2 := hrow.frozen (k * 5 + 2)
        have hd3 := hrow.cell (i := k * 5 + 3) (by omega)
        have hf3 := hrow.frozen (k * 5 + 3)
        have hd4 := hrow.cell (i := k * 5 + 4) (by omega)
        have hf4 := hrow.frozen (k * 5 + 4)
        have R1 := over_set (u := .int .i64 (q + 5 * k)) hrow (by rw [smarks_0])
        have R2 := over_set (u := .bool ((q + 5 * k + 1) % 3 == 0)) R1 (by rw [smarks_1])
        have R3 := over_set (u := .bool ((q + 5 * k + 1 + 1) % 3 == 0)) R2 (by rw [smarks_2])
        have R4 := over_set (u := .bool ((q + 5 * k + 1 + 1 + 1) % 3 == 0)) R3 (by rw [smarks_3])
        have R5 := over_set (u := .bool ((q + 5 * k + 1 + 1 + 1 + 1) % 3 == 0)) R4 (by rw [smarks_4])
        have RR := Lib.hid R5
        have BB := Lib.hid (grown_set (grown_set (grown_set (grown_set (grown_set hg (k * 5) (.int .i64 (q + 5 * k))) (k * 5 + 1) (.bool ((q + 5 * k + 1) % 3 == 0))) (k * 5 + 2) (.bool ((q + 5 * k + 1 + 1) % 3 == 0))) (k * 5 + 3) (.bool ((q + 5 * k + 1 + 1 + 1) % 3 == 0))) (k * 5 + 4) (.bool ((q + 5 * k + 1 + 1 + 1 + 1) % 3 == 0)))
        clear R1 R2 R3 R4 R5 hrow hg hr
        go_wp2
        go_roundw
        case rel => exact ⟨k + 1, by omega, by go_num, congrArg (Value.int .i64) (by omega), BB.out, by rw [show (k + 1) * 5 = k * 5 + 1 + 1 + 1 + 1 + 1 by omega]; exact RR.out⟩
        case measure => simp [intOf]; omega
      · obtain rfl : k = n := by omega
        have hs : Hid (Sl wr (.slice (some ⟨g, 0, none⟩) k cap) 5 k (smarks q)) := Sl.of_row hn ((Row.of_rowIs hrow).sub (a := 0) (m := k * 5) (by omega) |>.congr (fun i hi => by rw [Nat.zero_add, over_lt hi]))
        have hm : Hid (Mine wr (.slice (some ⟨g, 0, none⟩) k cap) 5 k) := Mine.of_row hn hrow hN
        clear hr hrow
        go_wp2
        go_ret
        exact ⟨rfl, hg, hs.out, hm.out⟩

end Go.Proofs.Ytkloolhngddpiaa
