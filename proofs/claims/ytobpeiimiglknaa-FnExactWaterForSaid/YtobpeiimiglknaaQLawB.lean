/- The walks of the laws themselves, over any answers of the two functions that they compare. -/
import Derived.Test.YtobpeiimiglknaaInts
import Derived.Test.YtobpeiimiglknaaAggs
import Derived.Test.YtobpeiimiglknaaBallast
import Derived.Deep.DeepMust
import Derived.Deep.RegionHeld3
import Derived.IntWalk
namespace Go.Proofs.Ytobpeiimiglknaa
open Go.RowKit Go.Deep

theorem l_GapFor_of {W : World} (c00 : Int) (c01 : Int) (c02 : Int) (c03 : Int) (v1 : Value) (n1 : Nat) (f1a : Nat → Int) (hs1 : Sl W v1 1 n1 (ic f1a))
    (r0 : Int) (r1 : Int)
    (HQ : Hid (∀ w u1, Sl w u1 1 n1 (ic f1a) → Calls Try.prog 29 #[.agg #[.int .i64 c00, .int .i64 c01, .int .i64 c02, .int .i64 c03], u1] w (fun en w' => en = .returned (.tuple #[.int .i64 r0, .int .i64 r1]) ∧ Below w.heap.size w w')))
    (HI : Hid (∀ w u1, Sl w u1 1 n1 (ic f1a) → Calls Try.prog 31 #[.agg #[.int .i64 c00, .int .i64 c01, .int .i64 c02, .int .i64 c03], u1] w (fun en w' => en = .returned (.tuple #[.int .i64 r0, .int .i64 r1]) ∧ Below w.heap.size w w'))) :
    Calls Try.prog 9 #[.agg #[.int .i64 c00, .int .i64 c01, .int .i64 c02, .int .i64 c03], v1] W (Truly W) := by
  have HS1 := hs1
  have hn1 := hs1.1
  obtain ⟨-, ao1, cap1, rfl, hr⟩ := hs1
  clear hr
  have hn1' : (n1 : Int) ≤ 17592186044416 := by omega
  by_cases hl1 : (1048576 : Int) < (n1 : Nat)
  · go_enter Try.func9, Try.ntmps9
    go_wp2_with fail
    go_ret
    exact ⟨rfl, (by repeat (first | assumption | exact Below.refl _ _ | refine kept_drew ?_ | refine kept_drewN ?_ _ | refine kept_alloc ?_ _ | refine kept_set ?_ ?_ _ | (simp; done) | (simp; omega) | refine kept_trans ?_ (by assumption)))⟩
  have hl1' : ((n1 : Nat) : Int) ≤ 1048576 := by omega
  have HSA1 := HS1.kept (kept_alloc (Below.refl _ _) (.cells #[.int .i64 c00, .int .i64 c01, .int .i64 c02, .int .i64 c03] 38))
  have qb0_0 : (W.alloc (.cells #[.int .i64 c00, .int .i64 c01, .int .i64 c02, .int .i64 c03] 38)).cell? ⟨W.heap.size, 0, none⟩ = some (.int .i64 c00) := boxed_at rfl rfl
  have qb0_1 : (W.alloc (.cells #[.int .i64 c00, .int .i64 c01, .int .i64 c02, .int .i64 c03] 38)).cell? ⟨W.heap.size, 1, none⟩ = some (.int .i64 c01) := boxed_at rfl rfl
  have qb0_2 : (W.alloc (.cells #[.int .i64 c00, .int .i64 c01, .int .i64 c02, .int .i64 c03] 38)).cell? ⟨W.heap.size, 2, none⟩ = some (.int .i64 c02) := boxed_at rfl rfl
  have qb0_3 : (W.alloc (.cells #[.int .i64 c00, .int .i64 c01, .int .i64 c02, .int .i64 c03] 38)).cell? ⟨W.heap.size, 3, none⟩ = some (.int .i64 c03) := boxed_at rfl rfl
  have KB0 : Below W.heap.size W (W.alloc (.cells #[.int .i64 c00, .int .i64 c01, .int .i64 c02, .int .i64 c03] 38)) := kept_alloc (Below.refl _ _) (.cells #[.int .i64 c00, .int .i64 c01, .int .i64 c02, .int .i64 c03] 38)
  go_enter Try.func9, Try.ntmps9
  go_wp2_with fail
  refine (l_toBasin c00 c01 c02 c03 _).mono ?_
  rintro e x1 ⟨rfl, hbx1⟩
  have szx1 := hbx1.size
  go_wp2_with fail
  refine (toInt64S_sl _ n1 f1a _ (HSA1.kept (hbx1))).mono ?_
  rintro e x2 ⟨rfl, hbx2, hux2⟩
  have szx2 := hbx2.size
  go_wp2_with fail
  refine (HQ.out _ _ (hux2)).mono ?_
  rintro e x3 ⟨rfl, hbx3⟩
  have szx3 := hbx3.size
  go_wp2_with fail
  refine (toInt64S_any _ n1 f1a _ (HSA1.kept (kept_trans (kept_trans (hbx1) hbx2) hbx3))).mono ?_
  rintro e x4 ⟨rfl, hbx4, hr1⟩
  have szx4 := hbx4.size
  have xs1 : Sl x4 (.slice (some ⟨x3.heap.size, 0, none⟩) n1 n1) 1 n1 (ic f1a) := Sl.of_row hn1 (by rw [Nat.mul_one]; exact Row.of_rowIs hr1)
  have xl1 := hr1.lt
  clear hr1
  have qo5_0 := cell_keep (kept_trans (kept_trans (kept_trans (hbx1) hbx2) hbx3) hbx4) qb0_0
  have qo5_1 := cell_keep (kept_trans (kept_trans (kept_trans (hbx1) hbx2) hbx3) hbx4) qb0_1
  have qo5_2 := cell_keep (kept_trans (kept_trans (kept_trans (hbx1) hbx2) hbx3) hbx4) qb0_2
  have qo5_3 := cell_keep (kept_trans (kept_trans (kept_trans (hbx1) hbx2) hbx3) hbx4) qb0_3
  go_wp2_with fail
  refine (l_toBasin c00 c01 c02 c03 _).mono ?_
  rintro e x5 ⟨rfl, hbx5⟩
  have szx5 := hbx5.size
  go_wp2_with fail
  refine (HI.out _ _ ((xs1).kept hbx5)).mono ?_
  rintro e x6 ⟨rfl, hbx6⟩
  have szx6 := hbx6.size
  go_wp2_with fail
  refine (toInt64S_sl _ n1 f1a _ (HSA1.kept (kept_trans (kept_trans (kept_trans (kept_trans (kept_trans (hbx1) hbx2) hbx3) hbx4) hbx5) hbx6))).mono ?_
  rintro e x7 ⟨rfl, hbx7, hux7⟩
  have szx7 := hbx7.size
  go_wp2_with fail
  refine (eqInt64S_any _ _ n1 f1a _ ((((xs1).kept hbx5).kept hbx6).kept hbx7) hux7).mono ?_
  rintro e x8 ⟨rfl, hbx8⟩
  have szx8 := hbx8.size
  go_wp2_with fail
  go_ret
  exact ⟨rfl, kept_trans KB0 (kept_trans (kept_trans (kept_trans (kept_trans (kept_trans (kept_trans (kept_trans (hbx1) hbx2) hbx3) hbx4) hbx5) hbx6) hbx7) hbx8)⟩

theorem l_WaterFor_of {W : World} (c00 : Int) (c01 : Int) (c02 : Int) (c03 : Int) (a1 : Int) (a2 : Int) (a3 : Int) (a4 : Int) (a5 : Int) 
    (r0 : Int) (r1 : Int)
    (HQ : Hid (∀ w, Calls Try.prog 32 #[.agg #[.int .i64 c00, .int .i64 c01, .int .i64 c02, .int .i64 c03], .int .i64 a1, .int .i64 a2, .int .i64 a3, .int .i64 a4, .int .i64 a5] w (fun en w' => en = .returned (.tuple #[.int .i64 r0, .int .i64 r1]) ∧ Below w.heap.size w w')))
    (HI : Hid (∀ w, Calls Try.prog 33 #[.agg #[.int .i64 c00, .int .i64 c01, .int .i64 c02, .int .i64 c03], .int .i64 a1, .int .i64 a2, .int .i64 a3, .int .i64 a4, .int .i64 a5] w (fun en w' => en = .returned (.tuple #[.int .i64 r0, .int .i64 r1]) ∧ Below w.heap.size w w'))) :
    Calls Try.prog 10 #[.agg #[.int .i64 c00, .int .i64 c01, .int .i64 c02, .int .i64 c03], .int .i64 a1, .int .i64 a2, .int .i64 a3, .int .i64 a4, .int .i64 a5] W (Truly W) := by
  have qb0_0 : (W.alloc (.cells #[.int .i64 c00, .int .i64 c01, .int .i64 c02, .int .i64 c03] 38)).cell? ⟨W.heap.size, 0, none⟩ = some (.int .i64 c00) := boxed_at rfl rfl
  have qb0_1 : (W.alloc (.cells #[.int .i64 c00, .int .i64 c01, .int .i64 c02, .int .i64 c03] 38)).cell? ⟨W.heap.size, 1, none⟩ = some (.int .i64 c01) := boxed_at rfl rfl
  have qb0_2 : (W.alloc (.cells #[.int .i64 c00, .int .i64 c01, .int .i64 c02, .int .i64 c03] 38)).cell? ⟨W.heap.size, 2, none⟩ = some (.int .i64 c02) := boxed_at rfl rfl
  have qb0_3 : (W.alloc (.cells #[.int .i64 c00, .int .i64 c01, .int .i64 c02, .int .i64 c03] 38)).cell? ⟨W.heap.size, 3, none⟩ = some (.int .i64 c03) := boxed_at rfl rfl
  have KB0 : Below W.heap.size W (W.alloc (.cells #[.int .i64 c00, .int .i64 c01, .int .i64 c02, .int .i64 c03] 38)) := kept_alloc (Below.refl _ _) (.cells #[.int .i64 c00, .int .i64 c01, .int .i64 c02, .int .i64 c03] 38)
  go_enter Try.func10, Try.ntmps10
  go_wp2_with fail
  refine (l_toBasin c00 c01 c02 c03 _).mono ?_
  rintro e x1 ⟨rfl, hbx1⟩
  have szx1 := hbx1.size
  go_wp2_with fail
  refine (HQ.out _ ).mono ?_
  rintro e x2 ⟨rfl, hbx2⟩
  have szx2 := hbx2.size
  have qo3_0 := cell_keep (kept_trans (hbx1) hbx2) qb0_0
  have qo3_1 := cell_keep (kept_trans (hbx1) hbx2) qb0_1
  have qo3_2 := cell_keep (kept_trans (hbx1) hbx2) qb0_2
  have qo3_3 := cell_keep (kept_trans (hbx1) hbx2) qb0_3
  go_wp2_with fail
  refine (l_toBasin c00 c01 c02 c03 _).mono ?_
  rintro e x3 ⟨rfl, hbx3⟩
  have szx3 := hbx3.size
  go_wp2_with fail
  refine (HI.out _ ).mono ?_
  rintro e x4 ⟨rfl, hbx4⟩
  have szx4 := hbx4.size
  go_wp2_with fail
  go_ret
  exact ⟨rfl, kept_trans KB0 (kept_trans (kept_trans (kept_trans (hbx1) hbx2) hbx3) hbx4)⟩

theorem l_StoreAfter_of {W : World} (c00 : Int) (c01 : Int) (c02 : Int) (c03 : Int) (v1 : Value) (n1 : Nat) (f1a : Nat → Int) (a2 : Int) (hs1 : Sl W v1 1 n1 (ic f1a))
    (m0 : Nat) (r0a : Nat → Int) (hm0 : m0 ≤ 17592186044416) (r1 : Int)
    (HQ : Hid (∀ w u1, Sl w u1 1 n1 (ic f1a) → Calls Try.prog 34 #[.agg #[.int .i64 c00, .int .i64 c01, .int .i64 c02, .int .i64 c03], u1, .int .i64 a2] w (fun en w' => ∃ g0, en = .returned (.tuple #[g0, .int .i64 r1]) ∧ Below w.heap.size w w' ∧ Out w' w.heap.size 2 1 g0 m0 (ic r0a))))
    (HI : Hid (∀ w u1, Sl w u1 1 n1 (ic f1a) → Calls Try.prog 35 #[.agg #[.int .i64 c00, .int .i64 c01, .int .i64 c02, .int .i64 c03], u1, .int .i64 a2] w (fun en w' => ∃ g0, en = .returned (.tuple #[g0, .int .i64 r1]) ∧ Below w.heap.size w w' ∧ Out w' w.heap.size 2 1 g0 m0 (ic r0a)))) :
    Calls Try.prog 11 #[.agg #[.int .i64 c00, .int .i64 c01, .int .i64 c02, .int .i64 c03], v1, .int .i64 a2] W (Truly W) := by
  have HS1 := hs1
  have hn1 := hs1.1
  obtain ⟨-, ao1, cap1, rfl, hr⟩ := hs1
  clear hr
  have hn1' : (n1 : Int) ≤ 17592186044416 := by omega
  have hm0' : (m0 : Int) ≤ 17592186044416 := by omega
  by_cases hl1 : (1048576 : Int) < (n1 : Nat)
  · go_enter Try.func11, Try.ntmps11
    go_wp2_with fail
    go_ret
    exact ⟨rfl, (by repeat (first | assumption | exact Below.refl _ _ | refine kept_drew ?_ | refine kept_drewN ?_ _ | refine kept_alloc ?_ _ | refine kept_set ?_ ?_ _ | (simp; done) | (simp; omega) | refine kept_trans ?_ (by assumption)))⟩
  have hl1' : ((n1 : Nat) : Int) ≤ 1048576 := by omega
  have HSA1 := HS1.kept (kept_alloc (Below.refl _ _) (.cells #[.int .i64 c00, .int .i64 c01, .int .i64 c02, .int .i64 c03] 38))
  have qb0_0 : (W.alloc (.cells #[.int .i64 c00, .int .i64 c01, .int .i64 c02, .int .i64 c03] 38)).cell? ⟨W.heap.size, 0, none⟩ = some (.int .i64 c00) := boxed_at rfl rfl
  have qb0_1 : (W.alloc (.cells #[.int .i64 c00, .int .i64 c01, .int .i64 c02, .int .i64 c03] 38)).cell? ⟨W.heap.size, 1, none⟩ = some (.int .i64 c01) := boxed_at rfl rfl
  have qb0_2 : (W.alloc (.cells #[.int .i64 c00, .int .i64 c01, .int .i64 c02, .int .i64 c03] 38)).cell? ⟨W.heap.size, 2, none⟩ = some (.int .i64 c02) := boxed_at rfl rfl
  have qb0_3 : (W.alloc (.cells #[.int .i64 c00, .int .i64 c01, .int .i64 c02, .int .i64 c03] 38)).cell? ⟨W.heap.size, 3, none⟩ = some (.int .i64 c03) := boxed_at rfl rfl
  have KB0 : Below W.heap.size W (W.alloc (.cells #[.int .i64 c00, .int .i64 c01, .int .i64 c02, .int .i64 c03] 38)) := kept_alloc (Below.refl _ _) (.cells #[.int .i64 c00, .int .i64 c01, .int .i64 c02, .int .i64 c03] 38)
  go_enter Try.func11, Try.ntmps11
  go_wp2_with fail
  refine (l_toBasin c00 c01 c02 c03 _).mono ?_
  rintro e x1 ⟨rfl, hbx1⟩
  have szx1 := hbx1.size
  go_wp2_with fail
  refine (toInt64S_sl _ n1 f1a _ (HSA1.kept (hbx1))).mono ?_
  rintro e x2 ⟨rfl, hbx2, hux2⟩
  have szx2 := hbx2.size
  go_wp2_with fail
  refine (HQ.out _ _ (hux2)).mono ?_
  rintro e x3 ⟨w0, rfl, hbx3, how0⟩
  have szx3 := hbx3.size
  go_wp2_with fail
  refine (toInt64S_any _ n1 f1a _ (HSA1.kept (kept_trans (kept_trans (hbx1) hbx2) hbx3))).mono ?_
  rintro e x4 ⟨rfl, hbx4, hr1⟩
  have szx4 := hbx4.size
  have xs1 : Sl x4 (.slice (some ⟨x3.heap.size, 0, none⟩) n1 n1) 1 n1 (ic f1a) := Sl.of_row hn1 (by rw [Nat.mul_one]; exact Row.of_rowIs hr1)
  have xm1 : Mine x4 (.slice (some ⟨x3.heap.size, 0, none⟩) n1 n1) 1 n1 := Mine.of_row hn1 hr1 (by omega)
  have xl1 := hr1.lt
  clear hr1
  have qo5_0 := cell_keep (kept_trans (kept_trans (kept_trans (hbx1) hbx2) hbx3) hbx4) qb0_0
  have qo5_1 := cell_keep (kept_trans (kept_trans (kept_trans (hbx1) hbx2) hbx3) hbx4) qb0_1
  have qo5_2 := cell_keep (kept_trans (kept_trans (kept_trans (hbx1) hbx2) hbx3) hbx4) qb0_2
  have qo5_3 := cell_keep (kept_trans (kept_trans (kept_trans (hbx1) hbx2) hbx3) hbx4) qb0_3
  go_wp2_with fail
  refine (l_toBasin c00 c01 c02 c03 _).mono ?_
  rintro e x5 ⟨rfl, hbx5⟩
  have szx5 := hbx5.size
  go_wp2_with fail
  refine (HI.out _ _ ((xs1).kept hbx5)).mono ?_
  rintro e x6 ⟨g0, rfl, hbx6, hog0⟩
  have szx6 := hbx6.size
  go_wp2_with fail
  refine (eqInt64S_any _ _ m0 r0a _ (hog0.sl hm0) (((how0.sl hm0)).kept (kept_trans (kept_trans (hbx4) hbx5) hbx6))).mono ?_
  rintro e x7 ⟨rfl, hbx7⟩
  have szx7 := hbx7.size
  go_wp2_with fail
  refine (toInt64S_sl _ n1 f1a _ (HSA1.kept (kept_trans (kept_trans (kept_trans (kept_trans (kept_trans (kept_trans (hbx1) hbx2) hbx3) hbx4) hbx5) hbx6) hbx7))).mono ?_
  rintro e x8 ⟨rfl, hbx8, hux8⟩
  have szx8 := hbx8.size
  go_wp2_with fail
  refine (eqInt64S_any _ _ n1 f1a _ (((((xs1).kept hbx5).kept hbx6).kept hbx7).kept hbx8) hux8).mono ?_
  rintro e x9 ⟨rfl, hbx9⟩
  have szx9 := hbx9.size
  go_wp2_with fail
  refine (markInt64S_any _ n1 _ _ ((((((xm1).kept hbx5).kept hbx6).kept hbx7).kept hbx8).kept hbx9) (by omega) (by omega)).mono ?_
  rintro e x10 ⟨rfl, hgx10, -, -⟩
  have rwx10 : ∀ b, (Value.slice (some ⟨x3.heap.size, 0, none⟩) n1 n1).ownBlock = some b → x3.heap.size ≤ b := fun b hb => by simp [Value.ownBlock] at hb; omega
  have rWx10 : ∀ b, (Value.slice (some ⟨x3.heap.size, 0, none⟩) n1 n1).ownBlock = some b → (W.alloc (.cells #[.int .i64 c00, .int .i64 c01, .int .i64 c02, .int .i64 c03] 38)).heap.size ≤ b := fun b hb => by have := (kept_trans (kept_trans (hbx1) hbx2) hbx3).size; have := rwx10 b hb; omega
  have fgx10_0 : ∀ b, g0.ownBlock = some b → some b ≠ (Value.slice (some ⟨x3.heap.size, 0, none⟩) n1 n1).ownBlock := fun b hb he => by have h1 := (hog0.base b hb).1; simp [Value.ownBlock] at he; omega
  have szx10 := hgx10.size
  go_wp2_with fail
  refine (eqInt64S_any _ _ m0 r0a _ (((((hog0.sl hm0).kept hbx7).kept hbx8).kept hbx9).far hgx10 fgx10_0) ((how0.sl hm0).kept (kept_grown (kept_trans (kept_trans (kept_trans (kept_trans (kept_trans (hbx4) hbx5) hbx6) hbx7) hbx8) hbx9) hgx10 rwx10))).mono ?_
  rintro e x11 ⟨rfl, hbx11⟩
  have szx11 := hbx11.size
  go_wp2_with fail
  refine (markInt64S_any _ m0 _ _ ((((((hog0.mine hm0).kept hbx7).kept hbx8).kept hbx9).far hgx10 fgx10_0).kept hbx11) (by omega) (by omega)).mono ?_
  rintro e x12 ⟨rfl, hgx12, sm0, -⟩
  have szx12 := hgx12.size
  have rwx12 : ∀ b, g0.ownBlock = some b → x3.heap.size ≤ b := fun b hb => by have := (hog0.base b hb).1; omega
  have rWx12 : ∀ b, g0.ownBlock = some b → (W.alloc (.cells #[.int .i64 c00, .int .i64 c01, .int .i64 c02, .int .i64 c03] 38)).heap.size ≤ b := fun b hb => by have := (kept_trans (kept_trans (hbx1) hbx2) hbx3).size; have := rwx12 b hb; omega
  go_wp2_with fail
  refine (heldInt64S_any _ m0 _ _ (sm0) (by omega) (by omega)).mono ?_
  rintro e x13 ⟨rfl, hbx13⟩
  have szx13 := hbx13.size
  have qo14_0 := cell_keep (kept_trans (kept_grown (kept_trans (kept_grown (kept_trans (kept_trans (kept_trans (kept_trans (kept_trans (kept_trans (kept_trans (kept_trans (hbx1) hbx2) hbx3) hbx4) hbx5) hbx6) hbx7) hbx8) hbx9) hgx10 rWx10) hbx11) hgx12 rWx12) hbx13) qb0_0
  have qo14_1 := cell_keep (kept_trans (kept_grown (kept_trans (kept_grown (kept_trans (kept_trans (kept_trans (kept_trans (kept_trans (kept_trans (kept_trans (kept_trans (hbx1) hbx2) hbx3) hbx4) hbx5) hbx6) hbx7) hbx8) hbx9) hgx10 rWx10) hbx11) hgx12 rWx12) hbx13) qb0_1
  have qo14_2 := cell_keep (kept_trans (kept_grown (kept_trans (kept_grown (kept_trans (kept_trans (kept_trans (kept_trans (kept_trans (kept_trans (kept_trans (kept_trans (hbx1) hbx2) hbx3) hbx4) hbx5) hbx6) hbx7) hbx8) hbx9) hgx10 rWx10) hbx11) hgx12 rWx12) hbx13) qb0_2
  have qo14_3 := cell_keep (kept_trans (kept_grown (kept_trans (kept_grown (kept_trans (kept_trans (kept_trans (kept_trans (kept_trans (kept_trans (kept_trans (kept_trans (hbx1) hbx2) hbx3) hbx4) hbx5) hbx6) hbx7) hbx8) hbx9) hgx10 rWx10) hbx11) hgx12 rWx12) hbx13) qb0_3
  go_wp2_with fail
  refine (l_toBasin c00 c01 c02 c03 _).mono ?_
  rintro e x14 ⟨rfl, hbx14⟩
  have szx14 := hbx14.size
  go_wp2_with fail
  refine (toInt64S_sl _ n1 f1a _ (HSA1.kept (kept_trans (kept_trans (kept_grown (kept_trans (kept_grown (kept_trans (kept_trans (kept_trans (kept_trans (kept_trans (kept_trans (kept_trans (kept_trans (hbx1) hbx2) hbx3) hbx4) hbx5) hbx6) hbx7) hbx8) hbx9) hgx10 rWx10) hbx11) hgx12 rWx12) hbx13) hbx14))).mono ?_
  rintro e x15 ⟨rfl, hbx15, hux15⟩
  have szx15 := hbx15.size
  go_wp2_with fail
  refine (HI.out _ _ (hux15)).mono ?_
  rintro e x16 ⟨h0, rfl, hbx16, hoh0⟩
  have szx16 := hbx16.size
  go_wp2_with fail
  refine (eqInt64S_any _ _ m0 r0a _ (hoh0.sl hm0) ((how0.sl hm0).kept (kept_trans (kept_trans (kept_trans (kept_trans (kept_grown (kept_trans (kept_grown (kept_trans (kept_trans (kept_trans (kept_trans (kept_trans (hbx4) hbx5) hbx6) hbx7) hbx8) hbx9) hgx10 rwx10) hbx11) hgx12 rwx12) hbx13) hbx14) hbx15) hbx16))).mono ?_
  rintro e x17 ⟨rfl, hbx17⟩
  have szx17 := hbx17.size
  go_wp2_with fail
  refine (heldInt64S_any _ m0 _ _ ((((((sm0).kept hbx13).kept hbx14).kept hbx15).kept hbx16).kept hbx17) (by omega) (by omega)).mono ?_
  rintro e x18 ⟨rfl, hbx18⟩
  have szx18 := hbx18.size
  go_wp2_with fail
  go_ret
  exact ⟨rfl, kept_trans KB0 (kept_trans (kept_trans (kept_trans (kept_trans (kept_trans (kept_trans (kept_grown (kept_trans (kept_grown (kept_trans (kept_trans (kept_trans (kept_trans (kept_trans (kept_trans (kept_trans (kept_trans (hbx1) hbx2) hbx3) hbx4) hbx5) hbx6) hbx7) hbx8) hbx9) hgx10 rWx10) hbx11) hgx12 rWx12) hbx13) hbx14) hbx15) hbx16) hbx17) hbx18)⟩

theorem l_TripWaters_of {W : World} (c00 : Int) (c01 : Int) (c02 : Int) (c03 : Int) (v1 : Value) (n1 : Nat) (f1a : Nat → Int) (v2 : Value) (n2 : Nat) (f2a : Nat → Int) (a3 : Int) (a4 : Int) (a5 : Int) (hs1 : Sl W v1 1 n1 (ic f1a)) (hs2 : Sl W v2 1 n2 (ic f2a))
    (m0 : Nat) (r0a : Nat → Int) (hm0 : m0 ≤ 17592186044416) (r1 : Int)
    (HQ : Hid (∀ w u1 u2, Sl w u1 1 n1 (ic f1a) → Sl w u2 1 n2 (ic f2a) → Calls Try.prog 36 #[.agg #[.int .i64 c00, .int .i64 c01, .int .i64 c02, .int .i64 c03], u1, u2, .int .i64 a3, .int .i64 a4, .int .i64 a5] w (fun en w' => ∃ g0, en = .returned (.tuple #[g0, .int .i64 r1]) ∧ Below w.heap.size w w' ∧ Out w' w.heap.size 2 1 g0 m0 (ic r0a))))
    (HI : Hid (∀ w u1 u2, Sl w u1 1 n1 (ic f1a) → Sl w u2 1 n2 (ic f2a) → Calls Try.prog 37 #[.agg #[.int .i64 c00, .int .i64 c01, .int .i64 c02, .int .i64 c03], u1, u2, .int .i64 a3, .int .i64 a4, .int .i64 a5] w (fun en w' => ∃ g0, en = .returned (.tuple #[g0, .int .i64 r1]) ∧ Below w.heap.size w w' ∧ Out w' w.heap.size 2 1 g0 m0 (ic r0a)))) :
    Calls Try.prog 12 #[.agg #[.int .i64 c00, .int .i64 c01, .int .i64 c02, .int .i64 c03], v1, v2, .int .i64 a3, .int .i64 a4, .int .i64 a5] W (Truly W) := by
  have HS1 := hs1
  have hn1 := hs1.1
  obtain ⟨-, ao1, cap1, rfl, hr⟩ := hs1
  clear hr
  have hn1' : (n1 : Int) ≤ 17592186044416 := by omega
  have HS2 := hs2
  have hn2 := hs2.1
  obtain ⟨-, ao2, cap2, rfl, hr⟩ := hs2
  clear hr
  have hn2' : (n2 : Int) ≤ 17592186044416 := by omega
  have hm0' : (m0 : Int) ≤ 17592186044416 := by omega
  by_cases hl1 : (1048576 : Int) < (n1 : Nat)
  · go_enter Try.func12, Try.ntmps12
    go_wp2_with fail
    go_ret
    exact ⟨rfl, (by repeat (first | assumption | exact Below.refl _ _ | refine kept_drew ?_ | refine kept_drewN ?_ _ | refine kept_alloc ?_ _ | refine kept_set ?_ ?_ _ | (simp; done) | (simp; omega) | refine kept_trans ?_ (by assumption)))⟩
  have hl1' : ((n1 : Nat) : Int) ≤ 1048576 := by omega
  by_cases hl2 : (1048576 : Int) < (n2 : Nat)
  · go_enter Try.func12, Try.ntmps12
    go_wp2_with fail
    go_ret
    exact ⟨rfl, (by repeat (first | assumption | exact Below.refl _ _ | refine kept_drew ?_ | refine kept_drewN ?_ _ | refine kept_alloc ?_ _ | refine kept_set ?_ ?_ _ | (simp; done) | (simp; omega) | refine kept_trans ?_ (by assumption)))⟩
  have hl2' : ((n2 : Nat) : Int) ≤ 1048576 := by omega
  have HSA1 := HS1.kept (kept_alloc (Below.refl _ _) (.cells #[.int .i64 c00, .int .i64 c01, .int .i64 c02, .int .i64 c03] 38))
  have HSA2 := HS2.kept (kept_alloc (Below.refl _ _) (.cells #[.int .i64 c00, .int .i64 c01, .int .i64 c02, .int .i64 c03] 38))
  have qb0_0 : (W.alloc (.cells #[.int .i64 c00, .int .i64 c01, .int .i64 c02, .int .i64 c03] 38)).cell? ⟨W.heap.size, 0, none⟩ = some (.int .i64 c00) := boxed_at rfl rfl
  have qb0_1 : (W.alloc (.cells #[.int .i64 c00, .int .i64 c01, .int .i64 c02, .int .i64 c03] 38)).cell? ⟨W.heap.size, 1, none⟩ = some (.int .i64 c01) := boxed_at rfl rfl
  have qb0_2 : (W.alloc (.cells #[.int .i64 c00, .int .i64 c01, .int .i64 c02, .int .i64 c03] 38)).cell? ⟨W.heap.size, 2, none⟩ = some (.int .i64 c02) := boxed_at rfl rfl
  have qb0_3 : (W.alloc (.cells #[.int .i64 c00, .int .i64 c01, .int .i64 c02, .int .i64 c03] 38)).cell? ⟨W.heap.size, 3, none⟩ = some (.int .i64 c03) := boxed_at rfl rfl
  have KB0 : Below W.heap.size W (W.alloc (.cells #[.int .i64 c00, .int .i64 c01, .int .i64 c02, .int .i64 c03] 38)) := kept_alloc (Below.refl _ _) (.cells #[.int .i64 c00, .int .i64 c01, .int .i64 c02, .int .i64 c03] 38)
  go_enter Try.func12, Try.ntmps12
  go_wp2_with fail
  refine (l_toBasin c00 c01 c02 c03 _).mono ?_
  rintro e x1 ⟨rfl, hbx1⟩
  have szx1 := hbx1.size
  go_wp2_with fail
  refine (toInt64S_sl _ n1 f1a _ (HSA1.kept (hbx1))).mono ?_
  rintro e x2 ⟨rfl, hbx2, hux2⟩
  have szx2 := hbx2.size
  go_wp2_with fail
  refine (toInt64S_sl _ n2 f2a _ (HSA2.kept (kept_trans (hbx1) hbx2))).mono ?_
  rintro e x3 ⟨rfl, hbx3, hux3⟩
  have szx3 := hbx3.size
  go_wp2_with fail
  refine (HQ.out _ _ _ ((hux2).kept hbx3) (hux3)).mono ?_
  rintro e x4 ⟨w0, rfl, hbx4, how0⟩
  have szx4 := hbx4.size
  go_wp2_with fail
  refine (toInt64S_any _ n1 f1a _ (HSA1.kept (kept_trans (kept_trans (kept_trans (hbx1) hbx2) hbx3) hbx4))).mono ?_
  rintro e x5 ⟨rfl, hbx5, hr1⟩
  have szx5 := hbx5.size
  have xs1 : Sl x5 (.slice (some ⟨x4.heap.size, 0, none⟩) n1 n1) 1 n1 (ic f1a) := Sl.of_row hn1 (by rw [Nat.mul_one]; exact Row.of_rowIs hr1)
  have xm1 : Mine x5 (.slice (some ⟨x4.heap.size, 0, none⟩) n1 n1) 1 n1 := Mine.of_row hn1 hr1 (by omega)
  have xl1 := hr1.lt
  clear hr1
  go_wp2_with fail
  refine (toInt64S_any _ n2 f2a _ (HSA2.kept (kept_trans (kept_trans (kept_trans (kept_trans (hbx1) hbx2) hbx3) hbx4) hbx5))).mono ?_
  rintro e x6 ⟨rfl, hbx6, hr2⟩
  have szx6 := hbx6.size
  have xs2 : Sl x6 (.slice (some ⟨x5.heap.size, 0, none⟩) n2 n2) 1 n2 (ic f2a) := Sl.of_row hn2 (by rw [Nat.mul_one]; exact Row.of_rowIs hr2)
  have xm2 : Mine x6 (.slice (some ⟨x5.heap.size, 0, none⟩) n2 n2) 1 n2 := Mine.of_row hn2 hr2 (by omega)
  have xl2 := hr2.lt
  clear hr2
  have qo7_0 := cell_keep (kept_trans (kept_trans (kept_trans (kept_trans (kept_trans (hbx1) hbx2) hbx3) hbx4) hbx5) hbx6) qb0_0
  have qo7_1 := cell_keep (kept_trans (kept_trans (kept_trans (kept_trans (kept_trans (hbx1) hbx2) hbx3) hbx4) hbx5) hbx6) qb0_1
  have qo7_2 := cell_keep (kept_trans (kept_trans (kept_trans (kept_trans (kept_trans (hbx1) hbx2) hbx3) hbx4) hbx5) hbx6) qb0_2
  have qo7_3 := cell_keep (kept_trans (kept_trans (kept_trans (kept_trans (kept_trans (hbx1) hbx2) hbx3) hbx4) hbx5) hbx6) qb0_3
  go_wp2_with fail
  refine (l_toBasin c00 c01 c02 c03 _).mono ?_
  rintro e x7 ⟨rfl, hbx7⟩
  have szx7 := hbx7.size
  go_wp2_with fail
  refine (HI.out _ _ _ (((xs1).kept hbx6).kept hbx7) ((xs2).kept hbx7)).mono ?_
  rintro e x8 ⟨g0, rfl, hbx8, hog0⟩
  have szx8 := hbx8.size
  go_wp2_with fail
  refine (eqInt64S_any _ _ m0 r0a _ (hog0.sl hm0) (((how0.sl hm0)).kept (kept_trans (kept_trans (kept_trans (hbx5) hbx6) hbx7) hbx8))).mono ?_
  rintro e x9 ⟨rfl, hbx9⟩
  have szx9 := hbx9.size
  go_wp2_with fail
  refine (toInt64S_sl _ n1 f1a _ (HSA1.kept (kept_trans (kept_trans (kept_trans (kept_trans (kept_trans (kept_trans (kept_trans (kept_trans (hbx1) hbx2) hbx3) hbx4) hbx5) hbx6) hbx7) hbx8) hbx9))).mono ?_
  rintro e x10 ⟨rfl, hbx10, hux10⟩
  have szx10 := hbx10.size
  go_wp2_with fail
  refine (eqInt64S_any _ _ n1 f1a _ ((((((xs1).kept hbx6).kept hbx7).kept hbx8).kept hbx9).kept hbx10) hux10).mono ?_
  rintro e x11 ⟨rfl, hbx11⟩
  have szx11 := hbx11.size
  go_wp2_with fail
  refine (toInt64S_sl _ n2 f2a _ (HSA2.kept (kept_trans (kept_trans (kept_trans (kept_trans (kept_trans (kept_trans (kept_trans (kept_trans (kept_trans (kept_trans (hbx1) hbx2) hbx3) hbx4) hbx5) hbx6) hbx7) hbx8) hbx9) hbx10) hbx11))).mono ?_
  rintro e x12 ⟨rfl, hbx12, hux12⟩
  have szx12 := hbx12.size
  go_wp2_with fail
  refine (eqInt64S_any _ _ n2 f2a _ (((((((xs2).kept hbx7).kept hbx8).kept hbx9).kept hbx10).kept hbx11).kept hbx12) hux12).mono ?_
  rintro e x13 ⟨rfl, hbx13⟩
  have szx13 := hbx13.size
  go_wp2_with fail
  refine (markInt64S_any _ n1 _ _ (((((((((xm1).kept hbx6).kept hbx7).kept hbx8).kept hbx9).kept hbx10).kept hbx11).kept hbx12).kept hbx13) (by omega) (by omega)).mono ?_
  rintro e x14 ⟨rfl, hgx14, -, -⟩
  have rwx14 : ∀ b, (Value.slice (some ⟨x4.heap.size, 0, none⟩) n1 n1).ownBlock = some b → x4.heap.size ≤ b := fun b hb => by simp [Value.ownBlock] at hb; omega
  have rWx14 : ∀ b, (Value.slice (some ⟨x4.heap.size, 0, none⟩) n1 n1).ownBlock = some b → (W.alloc (.cells #[.int .i64 c00, .int .i64 c01, .int .i64 c02, .int .i64 c03] 38)).heap.size ≤ b := fun b hb => by have := (kept_trans (kept_trans (kept_trans (hbx1) hbx2) hbx3) hbx4).size; have := rwx14 b hb; omega
  have fgx14_0 : ∀ b, g0.ownBlock = some b → some b ≠ (Value.slice (some ⟨x4.heap.size, 0, none⟩) n1 n1).ownBlock := fun b hb he => by have h1 := (hog0.base b hb).1; simp [Value.ownBlock] at he; omega
  have fxx14_2 : ∀ b, (Value.slice (some ⟨x5.heap.size, 0, none⟩) n2 n2).ownBlock = some b → some b ≠ (Value.slice (some ⟨x4.heap.size, 0, none⟩) n1 n1).ownBlock := fun b hb he => by simp [Value.ownBlock] at hb he; omega
  have szx14 := hgx14.size
  go_wp2_with fail
  refine (markInt64S_any _ n2 _ _ (((((((((xm2).kept hbx7).kept hbx8).kept hbx9).kept hbx10).kept hbx11).kept hbx12).kept hbx13).far hgx14 fxx14_2) (by omega) (by omega)).mono ?_
  rintro e x15 ⟨rfl, hgx15, -, -⟩
  have rwx15 : ∀ b, (Value.slice (some ⟨x5.heap.size, 0, none⟩) n2 n2).ownBlock = some b → x4.heap.size ≤ b := fun b hb => by simp [Value.ownBlock] at hb; omega
  have rWx15 : ∀ b, (Value.slice (some ⟨x5.heap.size, 0, none⟩) n2 n2).ownBlock = some b → (W.alloc (.cells #[.int .i64 c00, .int .i64 c01, .int .i64 c02, .int .i64 c03] 38)).heap.size ≤ b := fun b hb => by have := (kept_trans (kept_trans (kept_trans (hbx1) hbx2) hbx3) hbx4).size; have := rwx15 b hb; omega
  have fgx15_0 : ∀ b, g0.ownBlock = some b → some b ≠ (Value.slice (some ⟨x5.heap.size, 0, none⟩) n2 n2).ownBlock := fun b hb he => by have h1 := (hog0.base b hb).1; simp [Value.ownBlock] at he; omega
  have fxx15_1 : ∀ b, (Value.slice (some ⟨x4.heap.size, 0, none⟩) n1 n1).ownBlock = some b → some b ≠ (Value.slice (some ⟨x5.heap.size, 0, none⟩) n2 n2).ownBlock := fun b hb he => by simp [Value.ownBlock] at hb he; omega
  have szx15 := hgx15.size
  go_wp2_with fail
  refine (eqInt64S_any _ _ m0 r0a _ ((((((((hog0.sl hm0).kept hbx9).kept hbx10).kept hbx11).kept hbx12).kept hbx13).far hgx14 fgx14_0).far hgx15 fgx15_0) ((how0.sl hm0).kept (kept_grown (kept_grown (kept_trans (kept_trans (kept_trans (kept_trans (kept_trans (kept_trans (kept_trans (kept_trans (hbx5) hbx6) hbx7) hbx8) hbx9) hbx10) hbx11) hbx12) hbx13) hgx14 rwx14) hgx15 rwx15))).mono ?_
  rintro e x16 ⟨rfl, hbx16⟩
  have szx16 := hbx16.size
  go_wp2_with fail
  refine (markInt64S_any _ m0 _ _ (((((((((hog0.mine hm0).kept hbx9).kept hbx10).kept hbx11).kept hbx12).kept hbx13).far hgx14 fgx14_0).far hgx15 fgx15_0).kept hbx16) (by omega) (by omega)).mono ?_
  rintro e x17 ⟨rfl, hgx17, sm0, -⟩
  have szx17 := hgx17.size
  have rwx17 : ∀ b, g0.ownBlock = some b → x4.heap.size ≤ b := fun b hb => by have := (hog0.base b hb).1; omega
  have rWx17 : ∀ b, g0.ownBlock = some b → (W.alloc (.cells #[.int .i64 c00, .int .i64 c01, .int .i64 c02, .int .i64 c03] 38)).heap.size ≤ b := fun b hb => by have := (kept_trans (kept_trans (kept_trans (hbx1) hbx2) hbx3) hbx4).size; have := rwx17 b hb; omega
  go_wp2_with fail
  refine (heldInt64S_any _ m0 _ _ (sm0) (by omega) (by omega)).mono ?_
  rintro e x18 ⟨rfl, hbx18⟩
  have szx18 := hbx18.size
  have qo19_0 := cell_keep (kept_trans (kept_grown (kept_trans (kept_grown (kept_grown (kept_trans (kept_trans (kept_trans (kept_trans (kept_trans (kept_trans (kept_trans (kept_trans (kept_trans (kept_trans (kept_trans (kept_trans (hbx1) hbx2) hbx3) hbx4) hbx5) hbx6) hbx7) hbx8) hbx9) hbx10) hbx11) hbx12) hbx13) hgx14 rWx14) hgx15 rWx15) hbx16) hgx17 rWx17) hbx18) qb0_0
  have qo19_1 := cell_keep (kept_trans (kept_grown (kept_trans (kept_grown (kept_grown (kept_trans (kept_trans (kept_trans (kept_trans (kept_trans (kept_trans (kept_trans (kept_trans (kept_trans (kept_trans (kept_trans (kept_trans (hbx1) hbx2) hbx3) hbx4) hbx5) hbx6) hbx7) hbx8) hbx9) hbx10) hbx11) hbx12) hbx13) hgx14 rWx14) hgx15 rWx15) hbx16) hgx17 rWx17) hbx18) qb0_1
  have qo19_2 := cell_keep (kept_trans (kept_grown (kept_trans (kept_grown (kept_grown (kept_trans (kept_trans (kept_trans (kept_trans (kept_trans (kept_trans (kept_trans (kept_trans (kept_trans (kept_trans (kept_trans (kept_trans (hbx1) hbx2) hbx3) hbx4) hbx5) hbx6) hbx7) hbx8) hbx9) hbx10) hbx11) hbx12) hbx13) hgx14 rWx14) hgx15 rWx15) hbx16) hgx17 rWx17) hbx18) qb0_2
  have qo19_3 := cell_keep (kept_trans (kept_grown (kept_trans (kept_grown (kept_grown (kept_trans (kept_trans (kept_trans (kept_trans (kept_trans (kept_trans (kept_trans (kept_trans (kept_trans (kept_trans (kept_trans (kept_trans (hbx1) hbx2) hbx3) hbx4) hbx5) hbx6) hbx7) hbx8) hbx9) hbx10) hbx11) hbx12) hbx13) hgx14 rWx14) hgx15 rWx15) hbx16) hgx17 rWx17) hbx18) qb0_3
  go_wp2_with fail
  refine (l_toBasin c00 c01 c02 c03 _).mono ?_
  rintro e x19 ⟨rfl, hbx19⟩
  have szx19 := hbx19.size
  go_wp2_with fail
  refine (toInt64S_sl _ n1 f1a _ (HSA1.kept (kept_trans (kept_trans (kept_grown (kept_trans (kept_grown (kept_grown (kept_trans (kept_trans (kept_trans (kept_trans (kept_trans (kept_trans (kept_trans (kept_trans (kept_trans (kept_trans (kept_trans (kept_trans (hbx1) hbx2) hbx3) hbx4) hbx5) hbx6) hbx7) hbx8) hbx9) hbx10) hbx11) hbx12) hbx13) hgx14 rWx14) hgx15 rWx15) hbx16) hgx17 rWx17) hbx18) hbx19))).mono ?_
  rintro e x20 ⟨rfl, hbx20, hux20⟩
  have szx20 := hbx20.size
  go_wp2_with fail
  refine (toInt64S_sl _ n2 f2a _ (HSA2.kept (kept_trans (kept_trans (kept_trans (kept_grown (kept_trans (kept_grown (kept_grown (kept_trans (kept_trans (kept_trans (kept_trans (kept_trans (kept_trans (kept_trans (kept_trans (kept_trans (kept_trans (kept_trans (kept_trans (hbx1) hbx2) hbx3) hbx4) hbx5) hbx6) hbx7) hbx8) hbx9) hbx10) hbx11) hbx12) hbx13) hgx14 rWx14) hgx15 rWx15) hbx16) hgx17 rWx17) hbx18) hbx19) hbx20))).mono ?_
  rintro e x21 ⟨rfl, hbx21, hux21⟩
  have szx21 := hbx21.size
  go_wp2_with fail
  refine (HI.out _ _ _ ((hux20).kept hbx21) (hux21)).mono ?_
  rintro e x22 ⟨h0, rfl, hbx22, hoh0⟩
  have szx22 := hbx22.size
  go_wp2_with fail
  refine (eqInt64S_any _ _ m0 r0a _ (hoh0.sl hm0) ((how0.sl hm0).kept (kept_trans (kept_trans (kept_trans (kept_trans (kept_trans (kept_grown (kept_trans (kept_grown (kept_grown (kept_trans (kept_trans (kept_trans (kept_trans (kept_trans (kept_trans (kept_trans (kept_trans (hbx5) hbx6) hbx7) hbx8) hbx9) hbx10) hbx11) hbx12) hbx13) hgx14 rwx14) hgx15 rwx15) hbx16) hgx17 rwx17) hbx18) hbx19) hbx20) hbx21) hbx22))).mono ?_
  rintro e x23 ⟨rfl, hbx23⟩
  have szx23 := hbx23.size
  go_wp2_with fail
  refine (heldInt64S_any _ m0 _ _ (((((((sm0).kept hbx18).kept hbx19).kept hbx20).kept hbx21).kept hbx22).kept hbx23) (by omega) (by omega)).mono ?_
  rintro e x24 ⟨rfl, hbx24⟩
  have szx24 := hbx24.size
  go_wp2_with fail
  go_ret
  exact ⟨rfl, kept_trans KB0 (kept_trans (kept_trans (kept_trans (kept_trans (kept_trans (kept_trans (kept_trans (kept_grown (kept_trans (kept_grown (kept_grown (kept_trans (kept_trans (kept_trans (kept_trans (kept_trans (kept_trans (kept_trans (kept_trans (kept_trans (kept_trans (kept_trans (kept_trans (hbx1) hbx2) hbx3) hbx4) hbx5) hbx6) hbx7) hbx8) hbx9) hbx10) hbx11) hbx12) hbx13) hgx14 rWx14) hgx15 rWx15) hbx16) hgx17 rWx17) hbx18) hbx19) hbx20) hbx21) hbx22) hbx23) hbx24)⟩

end Go.Proofs.Ytobpeiimiglknaa
