/- Marks of fares and of tickets. -/
import Derived.Test.YtdecdlaopoglbaaMark
namespace Go.Proofs.Ytdecdlaopoglbaa
open Go.RowKit Go.Deep
set_option linter.unusedVariables false
set_option maxRecDepth 100000

/-- The marks of fares. -/
def fmarks (q : Int) : Nat → Value := fun j => if j % 4 = 0 then .string (mkT (q + j).toNat) else .int .i64 (q + j)
theorem markFareS_any (v : Value) (n : Nat) (q : Int) (W : World) (h : Mine W v 4 n) (hq : 1 ≤ q) (hq' : q ≤ 2305843009213693952) :
    Calls Try.prog 19 #[v, .int .i64 q] W fun e W' => e = .returned (.int .i64 (q + 4 * n)) ∧ W.grownBy W' v.ownBlock ∧ Sl W' v 4 n (fmarks q) ∧ Mine W' v 4 n := by
  obtain ⟨hn, ao, cap, rfl, h⟩ := h
  rcases h with h0 | ⟨g, t, N, F, rfl, hr, hN⟩
  · have h0' : n ≤ 0 := by omega
    clear h0
    go_enter Try.func19, Try.ntmps19
    go_wp2
    refine wp_loop_rounds 1 ?_
    rw [rounds_succ]
    go_wp2
    go_ret
    exact ⟨ret_int (by omega), World.grownBy.refl _ _, ⟨hn, _, _, rfl, .inl (by omega)⟩, ⟨hn, _, _, rfl, .inl (by omega)⟩⟩
  · go_enter Try.func19, Try.ntmps19
    go_wp2
    go_loopw [1, 5] (fun a i wr => ∃ k : Nat, k ≤ n ∧ i = .int .i64 k ∧ a = .int .i64 (q + 4 * k) ∧ W.grownBy wr (some g) ∧ wr.rowIs g t N (over (k * 4) (fmarks q) F)) (fun _ i _ => n - (intOf i).toNat)
    case atStart => exact ⟨0, Nat.zero_le _, rfl, by simp, World.grownBy.refl _ _, hr.congr (fun i _ => by simp [over])⟩
    case round =>
      obtain ⟨k, hk, rfl, rfl, hg, hrow⟩ := hrel
      by_cases hlt : k < n
      · have HM := Lib.hid (fun w => markText_int (q + 4 * k) w (by omega) (by omega))
        have HR := Lib.hid hrow
        have HG := Lib.hid hg
        have G0 : fmarks q (k * 4) = .string (mkT (q + 4 * k).toNat) := by unfold fmarks; rw [if_pos (by omega), show q + ((k * 4 : Nat) : Int) = q + 4 * k by omega]
        have G1 : fmarks q (k * 4 + 1) = .int .i64 (q + 4 * k + 1) := by unfold fmarks; rw [if_neg (by omega), show q + ((k * 4 + 1 : Nat) : Int) = q + 4 * k + 1 by omega]
        have G2 : fmarks q (k * 4 + 1 + 1) = .int .i64 (q + 4 * k + 1 + 1) := by unfold fmarks; rw [if_neg (by omega), show q + ((k * 4 + 1 + 1 : Nat) : Int) = q + 4 * k + 1 + 1 by omega]
        have G3 : fmarks q (k * 4 + 1 + 1 + 1) = .int .i64 (q + 4 * k + 1 + 1 + 1) := by unfold fmarks; rw [if_neg (by omega), show q + ((k * 4 + 1 + 1 + 1 : Nat) : Int) = q + 4 * k + 1 + 1 + 1 by omega]
        have G0 := Lib.hid G0
        have G1 := Lib.hid G1
        have G2 := Lib.hid G2
        have G3 := Lib.hid G3
        clear hrow hg hr
        go_wp2_with (go_at_call 46; refine (HM.out _).mono ?_; rintro e x1 ⟨rfl, hbx1⟩; have R0 := rowIs_kept HR.out hbx1; have hd0 := R0.cell (i := k * 4) (by omega); have hd1 := R0.cell (i := k * 4 + 1) (by omega); have hd2 := R0.cell (i := k * 4 + 2) (by omega); have hd3 := R0.cell (i := k * 4 + 3) (by omega); have hf0 := R0.frozen (k * 4); have hf1 := R0.frozen (k * 4 + 1); have hf2 := R0.frozen (k * 4 + 2); have hf3 := R0.frozen (k * 4 + 3); have R3 := Lib.hid (over_set (over_set (over_set (over_set R0 G0.out.symm) G1.out.symm) G2.out.symm) G3.out.symm); have B3 := Lib.hid (grown_set (grown_set (grown_set (grown_set (grown_kept HG.out hbx1) (k * 4) (.string (mkT (q + 4 * k).toNat))) (k * 4 + 1) (.int .i64 (q + 4 * k + 1))) (k * 4 + 1 + 1) (.int .i64 (q + 4 * k + 1 + 1))) (k * 4 + 1 + 1 + 1) (.int .i64 (q + 4 * k + 1 + 1 + 1))); clear R0)
        go_roundw
        case rel => exact ⟨k + 1, by omega, by go_num, congrArg (Value.int .i64) (by omega), B3.out, by rw [show (k + 1) * 4 = k * 4 + 1 + 1 + 1 + 1 by omega]; exact R3.out⟩
        case measure => simp [intOf]; omega
      · obtain rfl : k = n := by omega
        have hs : Hid (Sl wr (.slice (some ⟨g, 0, none⟩) k cap) 4 k (fmarks q)) := Sl.of_row hn ((Row.of_rowIs hrow).sub (a := 0) (m := k * 4) (by omega) |>.congr (fun i hi => by rw [Nat.zero_add, over_lt (by omega)]))
        have hm : Hid (Mine wr (.slice (some ⟨g, 0, none⟩) k cap) 4 k) := Mine.of_row hn hrow hN
        clear hr hrow
        go_wp2
        go_ret
        exact ⟨rfl, hg, hs.out, hm.out⟩

/-- The marks of tickets. -/
def kmarks (q : Int) : Nat → Value := fun j => if j % 3 = 0 then .string (mkT (q + j).toNat) else .int .i64 (q + j)
theorem markTicketS_any (v : Value) (n : Nat) (q : Int) (W : World) (h : Mine W v 3 n) (hq : 1 ≤ q) (hq' : q ≤ 2305843009213693952) :
    Calls Try.prog 25 #[v, .int .i64 q] W fun e W' => e = .returned (.int .i64 (q + 3 * n)) ∧ W.grownBy W' v.ownBlock ∧ Sl W' v 3 n (kmarks q) ∧ Mine W' v 3 n := by
  obtain ⟨hn, ao, cap, rfl, h⟩ := h
  rcases h with h0 | ⟨g, t, N, F, rfl, hr, hN⟩
  · have h0' : n ≤ 0 := by omega
    clear h0
    go_enter Try.func25, Try.ntmps25
    go_wp2
    refine wp_loop_rounds 1 ?_
    rw [rounds_succ]
    go_wp2
    go_ret
    exact ⟨ret_int (by omega), World.grownBy.refl _ _, ⟨hn, _, _, rfl, .inl (by omega)⟩, ⟨hn, _, _, rfl, .inl (by omega)⟩⟩
  · go_enter Try.func25, Try.ntmps25
    go_wp2
    go_loopw [1, 5] (fun a i wr => ∃ k : Nat, k ≤ n ∧ i = .int .i64 k ∧ a = .int .i64 (q + 3 * k) ∧ W.grownBy wr (some g) ∧ wr.rowIs g t N (over (k * 3) (kmarks q) F)) (fun _ i _ => n - (intOf i).toNat)
    case atStart => exact ⟨0, Nat.zero_le _, rfl, by simp, World.grownBy.refl _ _, hr.congr (fun i _ => by simp [over])⟩
    case round =>
      obtain ⟨k, hk, rfl, rfl, hg, hrow⟩ := hrel
      by_cases hlt : k < n
      · have HM := Lib.hid (fun w => markText_int (q + 3 * k) w (by omega) (by omega))
        have HR := Lib.hid hrow
        have HG := Lib.hid hg
        have G0 : kmarks q (k * 3) = .string (mkT (q + 3 * k).toNat) := by unfold kmarks; rw [if_pos (by omega), show q + ((k * 3 : Nat) : Int) = q + 3 * k by omega]
        have G1 : kmarks q (k * 3 + 1) = .int .i64 (q + 3 * k + 1) := by unfold kmarks; rw [if_neg (by omega), show q + ((k * 3 + 1 : Nat) : Int) = q + 3 * k + 1 by omega]
        have G2 : kmarks q (k * 3 + 1 + 1) = .int .i64 (q + 3 * k + 1 + 1) := by unfold kmarks; rw [if_neg (by omega), show q + ((k * 3 + 1 + 1 : Nat) : Int) = q + 3 * k + 1 + 1 by omega]
        have G0 := Lib.hid G0
        have G1 := Lib.hid G1
        have G2 := Lib.hid G2
        clear hrow hg hr
        go_wp2_with (go_at_call 46; refine (HM.out _).mono ?_; rintro e x1 ⟨rfl, hbx1⟩; have R0 := rowIs_kept HR.out hbx1; have hd0 := R0.cell (i := k * 3) (by omega); have hd1 := R0.cell (i := k * 3 + 1) (by omega); have hd2 := R0.cell (i := k * 3 + 2) (by omega); have hf0 := R0.frozen (k * 3); have hf1 := R0.frozen (k * 3 + 1); have hf2 := R0.frozen (k * 3 + 2); have R3 := Lib.hid (over_set (over_set (over_set R0 G0.out.symm) G1.out.symm) G2.out.symm); have B3 := Lib.hid (grown_set (grown_set (grown_set (grown_kept HG.out hbx1) (k * 3) (.string (mkT (q + 3 * k).toNat))) (k * 3 + 1) (.int .i64 (q + 3 * k + 1))) (k * 3 + 1 + 1) (.int .i64 (q + 3 * k + 1 + 1))); clear R0)
        go_roundw
        case rel => exact ⟨k + 1, by omega, by go_num, congrArg (Value.int .i64) (by omega), B3.out, by rw [show (k + 1) * 3 = k * 3 + 1 + 1 + 1 by omega]; exact R3.out⟩
        case measure => simp [intOf]; omega
      · obtain rfl : k = n := by omega
        have hs : Hid (Sl wr (.slice (some ⟨g, 0, none⟩) k cap) 3 k (kmarks q)) := Sl.of_row hn ((Row.of_rowIs hrow).sub (a := 0) (m := k * 3) (by omega) |>.congr (fun i hi => by rw [Nat.zero_add, over_lt (by omega)]))
        have hm : Hid (Mine wr (.slice (some ⟨g, 0, none⟩) k cap) 3 k) := Mine.of_row hn hrow hN
        clear hr hrow
        go_wp2
        go_ret
        exact ⟨rfl, hg, hs.out, hm.out⟩


end Go.Proofs.Ytdecdlaopoglbaa
