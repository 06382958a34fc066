/- Sums and greatest numbers of lists; one ride more; the least seats. -/
import Derived.Test.YtobpeiimiglknaaQueues
namespace Go.Proofs.Ytobpeiimiglknaa
open Go.RowKit Go.Deep
set_option linter.unusedVariables false

def sumTo (z : Nat → Int) : Nat → Int
  | 0 => 0
  | k + 1 => sumTo z k + z k
theorem sumTo_zero (z : Nat → Int) : sumTo z 0 = 0 := rfl
theorem sumTo_succ (z : Nat → Int) (k : Nat) : sumTo z (k + 1) = sumTo z k + z k := rfl
theorem sumTo_bd {z : Nat → Int} {n : Nat} (h : ∀ i, i < n → 0 ≤ z i ∧ z i ≤ 100000) : ∀ k, k ≤ n → 0 ≤ sumTo z k ∧ sumTo z k ≤ 100000 * k := by
  intro k
  induction k with
  | zero => intro _; simp [sumTo]
  | succ k ih => intro hk; have h1 := ih (by omega); have h2 := h k (by omega); rw [sumTo_succ]; omega
theorem sumTo_congr {z y : Nat → Int} {n : Nat} (h : ∀ i, i < n → z i = y i) : sumTo z n = sumTo y n := by
  induction n with
  | zero => rfl
  | succ n ih => rw [sumTo_succ, sumTo_succ, ih (fun i hi => h i (by omega)), h n (by omega)]
attribute [irreducible] sumTo

theorem i_total (v : Value) (n : Nat) (z : Nat → Int) (W : World) (hs : Sl W v 1 n (ic z)) (hn0 : n ≤ 100000) (HZ : Hid (∀ i, i < n → 0 ≤ z i ∧ z i ≤ 100000)) : Calls Try.prog 55 #[v] W fun e W' => e = .returned (.int .i64 (sumTo z n)) ∧ W = W' := by
  have HB := Lib.hid (sumTo_bd HZ.out)
  have H0 := Lib.hid (sumTo_zero z)
  have H1 := Lib.hid (sumTo_succ z)
  generalize sumTo z = s at *
  obtain ⟨hn, ao, cap, rfl, hr⟩ := hs
  rcases hr with h0 | ⟨g, off, rfl, hr⟩
  · have H0 := H0.out
    obtain rfl : n = 0 := h0
    have H0 := Lib.hid H0
    have h0' : (0 : Nat) ≤ 0 := Nat.le_refl _
    go_enter Try.func55, Try.ntmps55
    go_wp2
    refine wp_loop_rounds 1 ?_
    rw [rounds_succ]
    go_wp2
    go_ret
    exact ⟨by rw [H0.out]; rfl, rfl⟩
  go_enter Try.func55, Try.ntmps55
  go_wp2
  go_loop [3, 8] (fun a i => ∃ j : Nat, j ≤ n ∧ i = .int .i64 j ∧ a = .int .i64 (s j)) (fun _ i => n - (intOf i).toNat)
  case atStart => exact ⟨0, Nat.zero_le _, rfl, by rw [H0.out]⟩
  case round =>
    obtain ⟨j, hj, rfl, rfl⟩ := hrel
    by_cases hlt : j < n
    · have hs0 := hr.cell (i := j) (by omega)
      have z1 := HZ.out j hlt
      have b1 := HB.out j (by omega)
      have hq := Lib.hid (H1.out j)
      clear hr H0
      simp only [ic] at hs0
      go_wp2
      go_round
      case rel => exact ⟨j + 1, by omega, by go_num, by rw [hq.out]⟩
      case measure => simp [intOf]; omega
    · obtain rfl : j = n := by omega
      go_wp2
      go_ret
      exact ⟨rfl, rfl⟩

theorem s_l20Sum (v : Value) (n : Nat) (z : Nat → Int) (W : World) (hs : Sl W v 1 n (ic z)) (hn0 : n ≤ 100000) (HZ : Hid (∀ i, i < n → 0 ≤ z i ∧ z i ≤ 100000)) : Calls Try.prog 51 #[v] W fun e W' => e = .returned (.int .i64 (sumTo z n)) ∧ W = W' := by
  have HB := Lib.hid (sumTo_bd HZ.out)
  have H0 := Lib.hid (sumTo_zero z)
  have H1 := Lib.hid (sumTo_succ z)
  generalize sumTo z = s at *
  obtain ⟨hn, ao, cap, rfl, hr⟩ := hs
  rcases hr with h0 | ⟨g, off, rfl, hr⟩
  · have H0 := H0.out
    obtain rfl : n = 0 := h0
    have H0 := Lib.hid H0
    have h0' : (0 : Nat) ≤ 0 := Nat.le_refl _
    go_enter Try.func51, Try.ntmps51
    go_wp2
    refine wp_loop_rounds 1 ?_
    rw [rounds_succ]
    go_wp2
    go_ret
    exact ⟨by rw [H0.out]; rfl, rfl⟩
  go_enter Try.func51, Try.ntmps51
  go_wp2
  go_loop [3, 4] (fun a i => ∃ j : Nat, j ≤ n ∧ i = .int .i64 j ∧ a = .int .i64 (s j)) (fun _ i => n - (intOf i).toNat)
  case atStart => exact ⟨0, Nat.zero_le _, rfl, by rw [H0.out]⟩
  case round =>
    obtain ⟨j, hj, rfl, rfl⟩ := hrel
    by_cases hlt : j < n
    · have hs0 := hr.cell (i := j) (by omega)
      have z1 := HZ.out j hlt
      have b1 := HB.out j (by omega)
      have hq := Lib.hid (H1.out j)
      clear hr H0
      simp only [ic] at hs0
      go_wp2
      go_round
      case rel => exact ⟨j + 1, by omega, by go_num, by rw [hq.out]⟩
      case measure => simp [intOf]; omega
    · obtain rfl : j = n := by omega
      go_wp2
      go_ret
      exact ⟨rfl, rfl⟩

/-- The greatest of z 0 .. z k. -/
def mx (z : Nat → Int) : Nat → Int
  | 0 => z 0
  | k + 1 => max (mx z k) (z (k + 1))
theorem mx_zero (z : Nat → Int) : mx z 0 = z 0 := rfl
theorem mx_succ (z : Nat → Int) (k : Nat) : mx z (k + 1) = max (mx z k) (z (k + 1)) := rfl
attribute [irreducible] mx

theorem f_Max (v : Value) (n : Nat) (z : Nat → Int) (W : World) (hs : Sl W v 1 n (ic z)) (hn0 : 1 ≤ n) : Calls Try.prog 57 #[v] W fun e W' => e = .returned (.int .i64 (mx z (n - 1))) ∧ W = W' := by
  have H0 := Lib.hid (mx_zero z)
  have H1 := Lib.hid (mx_succ z)
  generalize mx z = s at *
  obtain ⟨hn, ao, cap, rfl, hr⟩ := hs
  rcases hr with h0 | ⟨g, off, rfl, hr⟩
  · exact absurd h0 (by omega)
  have hc0 := hr.cell (i := 0) (by omega)
  simp only [ic, Nat.add_zero] at hc0
  have hn1 : ¬ n < 1 := by omega
  have hp : 0 < n := by omega
  go_enter Try.func57, Try.ntmps57
  go_wp2
  go_loop [3, 4] (fun a i => ∃ j : Nat, j + 1 ≤ n ∧ i = .int .i64 ((j : Int) + 1) ∧ a = .int .i64 (s j)) (fun _ i => n - (intOf i).toNat)
  case atStart => exact ⟨0, by omega, rfl, by rw [H0.out]⟩
  case round =>
    obtain ⟨j, hj, rfl, rfl⟩ := hrel
    by_cases hlt : j + 1 < n
    · have hs0 := hr.cell (i := j + 1) (by omega)
      have hq := Lib.hid (H1.out j)
      clear hr H0 hc0
      simp only [ic] at hs0
      have hlt' : (j : Int) + 1 < n := by omega
      rcases (show s j < z (j + 1) ∨ z (j + 1) ≤ s j by omega) with hm | hm
      · have hq' : Hid (s (j + 1) = z (j + 1)) := by show _ = _; rw [hq.out]; omega
        go_wp2
        go_round
        case rel => exact ⟨j + 1, by omega, by go_num, by rw [hq'.out]⟩
        case measure => simp [intOf]; omega
      · have hq' : Hid (s (j + 1) = s j) := by show _ = _; rw [hq.out]; omega
        go_wp2
        go_round
        case rel => exact ⟨j + 1, by omega, by go_num, by rw [hq'.out]⟩
        case measure => simp [intOf]; omega
    · obtain rfl : n = j + 1 := by omega
      go_wp2
      go_ret
      exact ⟨rfl, rfl⟩

theorem s_l20Most (v : Value) (n : Nat) (z : Nat → Int) (W : World) (hs : Sl W v 1 n (ic z)) (hn0 : 1 ≤ n) : Calls Try.prog 56 #[v] W fun e W' => ∃ b : Int, e = .returned (.tuple #[.int .i64 (mx z (n - 1)), .int .i64 b]) ∧ Below W.heap.size W W' := by
  have H0 := Lib.hid (mx_zero z)
  have H1 := Lib.hid (mx_succ z)
  generalize mx z = s at *
  obtain ⟨hn, ao, cap, rfl, hr⟩ := hs
  rcases hr with h0 | ⟨g, off, rfl, hr⟩
  · exact absurd h0 (by omega)
  have hp : 0 < n := by omega
  go_enter Try.func56, Try.ntmps56
  go_wp2
  go_loopw [4, 5] (fun b i wr => ∃ j k : Nat, j ≤ n ∧ (k < j ∨ (k = 0 ∧ j = 0)) ∧ i = .int .i64 j ∧ b = .int .i64 k ∧ Hid (1 ≤ j → z k = s (j - 1)) ∧ Below W.heap.size W wr) (fun _ i _ => n - (intOf i).toNat)
  case atStart => exact ⟨0, 0, by omega, .inr ⟨rfl, rfl⟩, rfl, rfl, fun h => absurd h (by omega), Below.refl _ _⟩
  case round =>
    obtain ⟨j, k, hj, hk, rfl, rfl, hz, hb⟩ := hrel
    by_cases hlt : j < n
    · have hs0 := (hr.kept hb).cell (i := j) (by omega)
      have hs1 := (hr.kept hb).cell (i := k) (by omega)
      have hk' : k < n := by omega
      clear hr
      simp only [ic] at hs0 hs1
      rcases (show z k < z j ∨ z j ≤ z k by omega) with hm | hm
      · have hq' : Hid (1 ≤ j + 1 → z j = s (j + 1 - 1)) := fun _ => by
          rw [Nat.add_sub_cancel]
          rcases (show j = 0 ∨ 1 ≤ j by omega) with h | h
          · subst h; rw [H0.out]
          · have h1 := hz.out h
            have h2 := H1.out (j - 1)
            rw [show j - 1 + 1 = j by omega] at h2
            rw [h2, ← h1]; omega
        clear hk H0
        have d : decide (z k < z j) = true := by simp; omega
        go_wp2
        go_quiet (fail)
        go_wp2
        go_roundw
        case rel => exact ⟨j + 1, j, by omega, .inl (by omega), by go_num, rfl, hq', (by repeat (first | assumption | exact Below.refl _ _ | refine kept_drew ?_ | refine kept_drewN ?_ _ | refine kept_alloc ?_ _ | refine kept_set ?_ ?_ _ | (simp; done) | (simp; omega) | refine kept_trans ?_ (by assumption)))⟩
        case measure => simp [intOf]; omega
      · have hq' : Hid (1 ≤ j + 1 → z k = s (j + 1 - 1)) := fun _ => by
          rw [Nat.add_sub_cancel]
          rcases (show j = 0 ∨ 1 ≤ j by omega) with h | h
          · subst h; have : k = 0 := by omega
            subst this; rw [H0.out]
          · have h1 := hz.out h
            have h2 := H1.out (j - 1)
            rw [show j - 1 + 1 = j by omega] at h2
            rw [h2, ← h1]; omega
        have hk2 : k < j + 1 := by omega
        clear hk H0
        have d : decide (z k < z j) = false := by simp; omega
        go_wp2
        go_quiet (fail)
        go_wp2
        go_roundw
        case rel => exact ⟨j + 1, k, by omega, .inl hk2, by go_num, rfl, hq', (by repeat (first | assumption | exact Below.refl _ _ | refine kept_drew ?_ | refine kept_drewN ?_ _ | refine kept_alloc ?_ _ | refine kept_set ?_ ?_ _ | (simp; done) | (simp; omega) | refine kept_trans ?_ (by assumption)))⟩
        case measure => simp [intOf]; omega
    · obtain rfl : j = n := by omega
      have hs1 := (hr.kept hb).cell (i := k) (by omega)
      have hk' : k < j := by omega
      have hz := Lib.hid (hz.out hn0)
      clear hr hk
      simp only [ic] at hs1
      go_wp2
      go_ret2
      exact ⟨_, by rw [← hz.out]; rfl, hb⟩

theorem i_size_int (ao : Option Addr) (n cap : Nat) (W : World) (h : (n : Int) ≤ 17592186044416) : Calls Try.prog 54 #[.slice ao n cap] W fun e W' => e = .returned (.int .i64 n) ∧ W = W' := by
  go_enter Try.func54, Try.ntmps54
  go_wp2
  go_ret
  exact ⟨rfl, rfl⟩

end Go.Proofs.Ytobpeiimiglknaa
