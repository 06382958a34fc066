/- The walks of the laws themselves, over any answers of the two functions that they compare. -/
import Derived.Test.YtelgkgbglomcnaaAggs
import Derived.Deep.DeepMust
import Derived.Deep.RegionHeld3
import Derived.IntWalk
namespace Go.Proofs.Ytelgkgbglomcnaa
open Go.RowKit Go.Deep
set_option maxRecDepth 100000

theorem l_GroupKilos_of {W : World} (c00 : ByteArray) (c01 : Int) (c02 : Int) (c03 : Int) (hc0 : (c00.size : Int) ≤ 9223372036854775807)
    (r0 : Int) (r1 : Int)
    (HQ : Hid (∀ w, ((c00.size : Nat) : Int) ≤ 1048576 → Calls Try.prog 33 #[.agg #[.string c00, .int .i64 c01, .int .i64 c02, .int .i64 c03]] w (fun en w' => en = .returned (.tuple #[.int .i64 r0, .int .i64 r1]) ∧ Below w.heap.size w w')))
    (HI : Hid (∀ w, ((c00.size : Nat) : Int) ≤ 1048576 → Calls Try.prog 35 #[.agg #[.string c00, .int .i64 c01, .int .i64 c02, .int .i64 c03]] w (fun en w' => en = .returned (.tuple #[.int .i64 r0, .int .i64 r1]) ∧ Below w.heap.size w w'))) :
    Calls Try.prog 10 #[.agg #[.string c00, .int .i64 c01, .int .i64 c02, .int .i64 c03]] W (Truly W) := by
  have qb0_0 : (W.alloc (.cells #[.string c00, .int .i64 c01, .int .i64 c02, .int .i64 c03] 49)).cell? ⟨W.heap.size, 0, none⟩ = some (.string c00) := boxed_at rfl rfl
  have qb0_1 : (W.alloc (.cells #[.string c00, .int .i64 c01, .int .i64 c02, .int .i64 c03] 49)).cell? ⟨W.heap.size, 1, none⟩ = some (.int .i64 c01) := boxed_at rfl rfl
  have qb0_2 : (W.alloc (.cells #[.string c00, .int .i64 c01, .int .i64 c02, .int .i64 c03] 49)).cell? ⟨W.heap.size, 2, none⟩ = some (.int .i64 c02) := boxed_at rfl rfl
  have qb0_3 : (W.alloc (.cells #[.string c00, .int .i64 c01, .int .i64 c02, .int .i64 c03] 49)).cell? ⟨W.heap.size, 3, none⟩ = some (.int .i64 c03) := boxed_at rfl rfl
  have KB0 : Below W.heap.size W (W.alloc (.cells #[.string c00, .int .i64 c01, .int .i64 c02, .int .i64 c03] 49)) := kept_alloc (Below.refl _ _) (.cells #[.string c00, .int .i64 c01, .int .i64 c02, .int .i64 c03] 49)
  go_enter Try.func10, Try.ntmps10
  go_wp2_with fail
  refine (sz_Group c00 c01 c02 c03 _ _ (by omega) hc0).mono ?_
  rintro e z0 ⟨rz0, rfl, hzz0, hqz0, hwz0⟩
  have Kz0 : Below (W.alloc (.cells #[.string c00, .int .i64 c01, .int .i64 c02, .int .i64 c03] 49)).heap.size (W.alloc (.cells #[.string c00, .int .i64 c01, .int .i64 c02, .int .i64 c03] 49)) z0 := hwz0
  obtain ⟨hzz0a, hzz0b⟩ := hzz0
  by_cases hlz0 : rz0 < 0
  · go_wp2_with fail
    go_ret
    exact ⟨rfl, kept_trans KB0 Kz0⟩
  have hlz0' : 0 ≤ rz0 := by omega
  have lc0 : ((c00.size : Nat) : Int) ≤ 1048576 := by have := hqz0.out hlz0'; omega
  have qo1_0 := cell_keep (Kz0) qb0_0
  have qo1_1 := cell_keep (Kz0) qb0_1
  have qo1_2 := cell_keep (Kz0) qb0_2
  have qo1_3 := cell_keep (Kz0) qb0_3
  go_wp2_with fail
  refine (l_toGroup c00 c01 c02 c03 _).mono ?_
  rintro e x1 ⟨rfl, hbx1⟩
  have szx1 := hbx1.size
  go_wp2_with fail
  refine (HQ.out _  lc0).mono ?_
  rintro e x2 ⟨rfl, hbx2⟩
  have szx2 := hbx2.size
  have qo3_0 := cell_keep (kept_trans (kept_trans (Kz0) hbx1) hbx2) qb0_0
  have qo3_1 := cell_keep (kept_trans (kept_trans (Kz0) hbx1) hbx2) qb0_1
  have qo3_2 := cell_keep (kept_trans (kept_trans (Kz0) hbx1) hbx2) qb0_2
  have qo3_3 := cell_keep (kept_trans (kept_trans (Kz0) hbx1) hbx2) qb0_3
  go_wp2_with fail
  refine (l_toGroup c00 c01 c02 c03 _).mono ?_
  rintro e x3 ⟨rfl, hbx3⟩
  have szx3 := hbx3.size
  go_wp2_with fail
  refine (HI.out _  lc0).mono ?_
  rintro e x4 ⟨rfl, hbx4⟩
  have szx4 := hbx4.size
  go_wp2_with fail
  go_ret
  exact ⟨rfl, kept_trans KB0 (kept_trans (kept_trans (kept_trans (kept_trans (Kz0) hbx1) hbx2) hbx3) hbx4)⟩

end Go.Proofs.Ytelgkgbglomcnaa
