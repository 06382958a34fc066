/- Contracts of the small functions. -/
import Derived.Test.YtelgkgbglomcnaaFrame
namespace Go.Proofs.Ytelgkgbglomcnaa
open Go.RowKit

def inB (n a b : Int) : Bool := decide (a ≤ n ∧ n ≤ b)
theorem inB_yes {n a b : Int} (h : a ≤ n) (h' : n ≤ b) : inB n a b = true := by simp [inB, h, h']
theorem inB_no {n a b : Int} (h : ¬ (a ≤ n ∧ n ≤ b)) : inB n a b = false := by simpa [inB] using h

theorem within_any (n a b : Int) (W : World) : Calls Try.prog 48 #[.int .i64 n, .int .i64 a, .int .i64 b] W fun e W' => e = .returned (.bool (inB n a b)) ∧ W = W' := by
  by_cases h : a ≤ n <;> by_cases h' : n ≤ b
  all_goals
    go_enter Try.func48, Try.ntmps48
    go_wp2
    go_ret
    exact ⟨by simp [inB, h, h'], rfl⟩

theorem l00In_any (n a b : Int) (W : World) : Calls Try.prog 82 #[.int .i64 n, .int .i64 a, .int .i64 b] W fun e W' => e = .returned (.bool (inB n a b)) ∧ W = W' := by
  by_cases h : a ≤ n <;> by_cases h' : n ≤ b
  all_goals
    go_enter Try.func82, Try.ntmps82
    go_wp2
    go_ret
    exact ⟨by simp [inB, h, h'], rfl⟩

theorem isKilos_any (n : Int) (W : World) : Calls Try.prog 49 #[.int .i64 n] W fun e W' => e = .returned (.bool (inB n 0 100000)) ∧ W = W' := by
  go_enter Try.func49, Try.ntmps49
  go_wp2_with (go_at_call 48; refine (within_any _ _ _ _).mono ?_; rintro e w' ⟨rfl, rfl⟩)
  go_ret
  exact ⟨rfl, rfl⟩

theorem l04Kilos_any (n : Int) (W : World) : Calls Try.prog 67 #[.int .i64 n] W fun e W' => e = .returned (.bool (inB n 0 100000)) ∧ W = W' := by
  go_enter Try.func67, Try.ntmps67
  go_wp2_with ((go_at_call 82; refine (l00In_any _ _ _ _).mono ?_; rintro e w' ⟨rfl, rfl⟩))
  go_ret
  exact ⟨rfl, rfl⟩

theorem iValidRoom_any (p b k : Int) (W : World) : Calls Try.prog 16 #[.agg #[.int .i64 p, .int .i64 b, .int .i64 k]] W fun e W' => e = .returned (.bool (inB p 0 200 && inB b 0 40 && inB k 0 100000)) ∧ Below W.heap.size W W' := by
  go_enter Try.func16, Try.ntmps16
  go_wp2_with (first | (go_at_call 48; refine (within_any _ _ _ _).mono ?_; rintro e w' ⟨rfl, rfl⟩) | (go_at_call 49; refine (isKilos_any _ _).mono ?_; rintro e w' ⟨rfl, rfl⟩))
  all_goals
    go_ret
    exact ⟨by simp [*], (by repeat (first | assumption | exact Below.refl _ _ | refine kept_drew ?_ | refine kept_drewN ?_ _ | refine kept_alloc ?_ _ | refine kept_set ?_ ?_ _ | (simp; done) | (simp; omega) | refine kept_trans ?_ (by assumption)))⟩

theorem sl17Room_any (p b k : Int) (W : World) (g : Nat) (h0 : W.cell? ⟨g, 0, none⟩ = some (.int .i64 p)) (h1 : W.cell? ⟨g, 1, none⟩ = some (.int .i64 b)) (h2 : W.cell? ⟨g, 2, none⟩ = some (.int .i64 k)) :
    Calls Try.prog 47 #[.pointer (some ⟨g, 0, none⟩)] W fun e W' => e = .returned (.bool (inB p 0 200 && inB b 0 40 && inB k 0 100000)) ∧ W = W' := by
  go_enter Try.func47, Try.ntmps47
  go_wp2_with (first | (go_at_call 82; refine (l00In_any _ _ _ _).mono ?_; rintro e w' ⟨rfl, rfl⟩) | (go_at_call 67; refine (l04Kilos_any _ _).mono ?_; rintro e w' ⟨rfl, rfl⟩))
  all_goals
    go_ret
    exact ⟨by simp [*], rfl⟩

theorem sValidRoom_any (p b k : Int) (W : World) : Calls Try.prog 14 #[.agg #[.int .i64 p, .int .i64 b, .int .i64 k]] W fun e W' => e = .returned (.bool (inB p 0 200 && inB b 0 40 && inB k 0 100000)) ∧ Below W.heap.size W W' := by
  go_enter Try.func14, Try.ntmps14
  go_wp2_with (first | (go_at_call 47; refine (sl17Room_any p b k _ _ (by go_simp) (by go_simp) (by go_simp)).mono ?_; rintro e w' ⟨rfl, rfl⟩))
  go_ret
  exact ⟨rfl, (by repeat (first | assumption | exact Below.refl _ _ | refine kept_drew ?_ | refine kept_drewN ?_ _ | refine kept_alloc ?_ _ | refine kept_set ?_ ?_ _ | (simp; done) | (simp; omega) | refine kept_trans ?_ (by assumption)))⟩

theorem toRoom_any (p b k : Int) (W : World) : Calls Try.prog 15 #[.agg #[.int .i64 p, .int .i64 b, .int .i64 k]] W fun e W' => e = .returned (.agg #[.int .i64 p, .int .i64 b, .int .i64 k]) ∧ Below W.heap.size W W' := by
  go_enter Try.func15, Try.ntmps15
  go_wp2
  refine bodyPost_ret (v := .agg #[.int .i64 p, .int .i64 b, .int .i64 k]) (by simp [results, go_sem]) rfl ⟨rfl, (by repeat (first | assumption | exact Below.refl _ _ | refine kept_drew ?_ | refine kept_drewN ?_ _ | refine kept_alloc ?_ _ | refine kept_set ?_ ?_ _ | (simp; done) | (simp; omega) | refine kept_trans ?_ (by assumption)))⟩

theorem lValidRoom_any (p b k : Int) (W : World) : Calls Try.prog 3 #[.agg #[.int .i64 p, .int .i64 b, .int .i64 k]] W (Truly W) := by
  go_enter Try.func3, Try.ntmps3
  go_wp2_with (first | (go_at_call 15; refine (toRoom_any _ _ _ _).mono ?_; rintro e w1 ⟨rfl, hb⟩; have hk := kept_trans (by first | assumption | exact kept_alloc (by assumption) _ | exact kept_drew (by assumption) | exact Below.refl _ _) hb; obtain ⟨hc, hf⟩ := bcell hk; have hz := hk.size; simp at hz) | (go_at_call 14; refine (sValidRoom_any _ _ _ _).mono ?_; rintro e w1 ⟨rfl, hb⟩; have hk := kept_trans (by first | assumption | exact kept_alloc (by assumption) _ | exact kept_drew (by assumption) | exact Below.refl _ _) hb; obtain ⟨hc, hf⟩ := bcell hk; have hz := hk.size; simp at hz) | (go_at_call 16; refine (iValidRoom_any _ _ _ _).mono ?_; rintro e w1 ⟨rfl, hb⟩; have hk := kept_trans (by first | assumption | exact kept_alloc (by assumption) _ | exact kept_drew (by assumption) | exact Below.refl _ _) hb; obtain ⟨hc, hf⟩ := bcell hk; have hz := hk.size; simp at hz))
  go_ret
  exact ⟨rfl, (by repeat (first | assumption | exact Below.refl _ _ | refine kept_drew ?_ | refine kept_drewN ?_ _ | refine kept_alloc ?_ _ | refine kept_set ?_ ?_ _ | (simp; done) | (simp; omega) | refine kept_trans ?_ (by assumption)))⟩

end Go.Proofs.Ytelgkgbglomcnaa
