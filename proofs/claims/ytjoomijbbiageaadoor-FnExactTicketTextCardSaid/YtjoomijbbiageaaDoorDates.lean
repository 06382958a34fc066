/- The calendar: the walks of the two months' lengths. -/
import Derived.Test.YtjoomijbbiageaaDoorCal
import Derived.Test.YtjoomijbbiageaaDoorAggs
import Derived.IntWalk
namespace Go.Proofs.YtjoomijbbiageaaDoor
open Go.RowKit Go.Deep
set_option linter.unusedVariables false
set_option maxRecDepth 100000

theorem month_cases {m : Int} (h : 1 ≤ m ∧ m ≤ 12) : m = 1 ∨ m = 2 ∨ m = 3 ∨ m = 4 ∨ m = 5 ∨ m = 6 ∨ m = 7 ∨ m = 8 ∨ m = 9 ∨ m = 10 ∨ m = 11 ∨ m = 12 := by omega
theorem mLen_two {y : Int} : mLen y 2 = if y % 4 = 0 then 29 else 28 := rfl

theorem i_monthLength (y m : Int) (W : World) (hy : 2000 ≤ y ∧ y ≤ 2100) (hm : 1 ≤ m ∧ m ≤ 12) : Calls Tryd.prog 32 #[.int .i64 y, .int .i64 m] W fun e W' => e = .returned (.int .i64 (mLen y m)) ∧ W = W' := by
  rcases month_cases hm with rfl | rfl | rfl | rfl | rfl | rfl | rfl | rfl | rfl | rfl | rfl | rfl
  case inr.inl =>
    rw [mLen_two]
    have h0 : (0 : Int) ≤ y := by omega
    by_cases h : y % 4 = 0
    · rw [if_pos h]
      go_enter Tryd.func32, Tryd.ntmps32
      go_wp2
      go_ret
      exact ⟨rfl, rfl⟩
    · rw [if_neg h]
      go_enter Tryd.func32, Tryd.ntmps32
      go_wp2
      go_ret
      exact ⟨rfl, rfl⟩
  all_goals
    go_enter Tryd.func32, Tryd.ntmps32
    go_wp2
    go_ret
    exact ⟨by simp [mLen], rfl⟩

theorem i_dayOf (y m t : Int) (W : World) (hy : 2000 ≤ y ∧ y ≤ 2100) (hm : 1 ≤ m ∧ m ≤ 12) (ht : 0 ≤ t ∧ t ≤ 31) : Calls Tryd.prog 28 #[.int .i64 y, .int .i64 m, .int .i64 t] W fun e W' => e = .returned (.int .i64 (dayD y m + t - 1)) ∧ W = W' := by
  obtain ⟨a, ha⟩ : ∃ a, (y - 2000) * 365 = a := ⟨_, rfl⟩
  obtain ⟨b, hb⟩ : ∃ b, (y - 1997) / 4 = b := ⟨_, rfl⟩
  have ha1 : 0 ≤ a ∧ a ≤ 36500 := by omega
  have hb1 : 0 ≤ b ∧ b ≤ 26 := by omega
  have h97 : (0 : Int) ≤ y - 1997 := by omega
  have HR : Hid (∀ j : Nat, (j : Int) + 1 = m → a + b + t - 1 + cumM y j = dayD y m + t - 1) := fun j hj => by
    unfold dayD
    rw [show (m - 1).toNat = j by omega]
    omega
  have HM := Lib.hid (fun w (j : Nat) (hj : (j : Int) + 1 < m) => i_monthLength y ((j : Int) + 1) w hy (by omega))
  have HC := Lib.hid (fun j => cumM_bd y j)
  have HL := Lib.hid (fun (j : Nat) => mLen_bd y ((j : Int) + 1))
  have HS : Hid (∀ j : Nat, cumM y (j + 1) = cumM y j + mLen y ((j : Int) + 1)) := fun j => rfl
  go_enter Tryd.func28, Tryd.ntmps28
  go_wp2
  clear ha hb
  go_loop [7, 8] (fun d i => ∃ j : Nat, (j : Int) + 1 ≤ m ∧ d = .int .i64 (a + b + t - 1 + cumM y j) ∧ i = .int .i64 ((j : Int) + 1)) (fun _ i => (13 - intOf i).toNat)
  case atStart => exact ⟨0, by omega, by simp [cumM], rfl⟩
  case round =>
    obtain ⟨j, hj, rfl, rfl⟩ := hrel
    have c := HC.out j
    have l := HL.out j
    by_cases hjk : (j : Int) + 1 < m
    · have HK := Lib.hid (HM.out W j hjk)
      have HSj := Lib.hid (HS.out j)
      generalize cumM y j = q at *
      generalize mLen y ((j : Int) + 1) = z at *
      go_wp2_with (go_at_call 32; refine HK.out.mono ?_; rintro e w1 ⟨rfl, rfl⟩)
      go_round
      case rel => exact ⟨j + 1, by omega, by rw [HSj.out]; congr 1; omega, by congr 1⟩
      case measure => simp [intOf]; omega
    · have e := Lib.hid (HR.out j (by omega))
      generalize cumM y j = q at *
      go_wp2
      go_ret
      exact ⟨by rw [e.out]; rfl, rfl⟩

set_option maxHeartbeats 3200000 in
theorem s_l02Length (y m : Int) (W : World) (hy : 2000 ≤ y ∧ y ≤ 2100) (hm : 1 ≤ m ∧ m ≤ 12) : Calls Tryd.prog 31 #[.int .i64 y, .int .i64 m] W fun e W' => e = .returned (.int .i64 (mLen y m)) ∧ Below W.heap.size W W' := by
  rcases month_cases hm with rfl | rfl | rfl | rfl | rfl | rfl | rfl | rfl | rfl | rfl | rfl | rfl
  case inr.inl =>
    rw [mLen_two]
    have h0 : (0 : Int) ≤ y := by omega
    by_cases h : y % 4 = 0
    · rw [if_pos h]
      go_enter Tryd.func31, Tryd.ntmps31
      go_wp2
      go_ret
      exact ⟨rfl, kept_alloc (Below.refl _ _) _⟩
    · rw [if_neg h]
      go_enter Tryd.func31, Tryd.ntmps31
      go_wp2
      go_ret
      exact ⟨rfl, kept_alloc (Below.refl _ _) _⟩
  all_goals
    go_enter Tryd.func31, Tryd.ntmps31
    go_wp2
    go_ret
    exact ⟨by simp [mLen], kept_alloc (Below.refl _ _) _⟩

end Go.Proofs.YtjoomijbbiageaaDoor
