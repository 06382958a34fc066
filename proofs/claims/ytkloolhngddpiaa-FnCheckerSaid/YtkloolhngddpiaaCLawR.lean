/- The walks of the laws themselves, over any answers of the two functions that they compare. -/
import Derived.Test.YtkloolhngddpiaaAggs
import Derived.Test.YtkloolhngddpiaaInts
import Derived.Test.YtkloolhngddpiaaChkH
import Derived.Deep.DeepMust
import Derived.Deep.RegionHeld3
import Derived.IntWalk
namespace Go.Proofs.Ytkloolhngddpiaa
open Go.RowKit Go.Deep
set_option maxRecDepth 100000

theorem l_ReachedStates_of {W : World} (c00 : Int) (c01 : Bool) (c02 : Bool) (c03 : Bool) (c04 : Bool) 
    (m0 : Nat) (r0a : List Nat) (hm0 : m0 ≤ 17592186044416) (r1 : Int)
    (HQ : Hid (∀ w, Calls Try.prog 42 #[.agg #[.int .i64 c00, .bool c01, .bool c02, .bool c03, .bool c04]] w (fun en w' => ∃ g0, en = .returned (.tuple #[g0, .int .i64 r1]) ∧ Below w.heap.size w w' ∧ Out w' w.heap.size 53 5 g0 m0 (stc r0a))))
    (HI : Hid (∀ w, Calls Try.prog 43 #[.agg #[.int .i64 c00, .bool c01, .bool c02, .bool c03, .bool c04]] w (fun en w' => ∃ g0, en = .returned (.tuple #[g0, .int .i64 r1]) ∧ Below w.heap.size w w' ∧ Out w' w.heap.size 53 5 g0 m0 (stc r0a)))) :
    Calls Try.prog 8 #[.agg #[.int .i64 c00, .bool c01, .bool c02, .bool c03, .bool c04]] W (Truly W) := by
  have hm0' : (m0 : Int) ≤ 17592186044416 := by omega
  have qb0_0 : (W.alloc (.cells #[.int .i64 c00, .bool c01, .bool c02, .bool c03, .bool c04] 51)).cell? ⟨W.heap.size, 0, none⟩ = some (.int .i64 c00) := boxed_at rfl rfl
  have qb0_1 : (W.alloc (.cells #[.int .i64 c00, .bool c01, .bool c02, .bool c03, .bool c04] 51)).cell? ⟨W.heap.size, 1, none⟩ = some (.bool c01) := boxed_at rfl rfl
  have qb0_2 : (W.alloc (.cells #[.int .i64 c00, .bool c01, .bool c02, .bool c03, .bool c04] 51)).cell? ⟨W.heap.size, 2, none⟩ = some (.bool c02) := boxed_at rfl rfl
  have qb0_3 : (W.alloc (.cells #[.int .i64 c00, .bool c01, .bool c02, .bool c03, .bool c04] 51)).cell? ⟨W.heap.size, 3, none⟩ = some (.bool c03) := boxed_at rfl rfl
  have qb0_4 : (W.alloc (.cells #[.int .i64 c00, .bool c01, .bool c02, .bool c03, .bool c04] 51)).cell? ⟨W.heap.size, 4, none⟩ = some (.bool c04) := boxed_at rfl rfl
  have KB0 : Below W.heap.size W (W.alloc (.cells #[.int .i64 c00, .bool c01, .bool c02, .bool c03, .bool c04] 51)) := kept_alloc (Below.refl _ _) (.cells #[.int .i64 c00, .bool c01, .bool c02, .bool c03, .bool c04] 51)
  go_enter Try.func8, Try.ntmps8
  go_wp2_with fail
  refine (l_toState c00 c01 c02 c03 c04 _).mono ?_
  rintro e x1 ⟨rfl, hbx1⟩
  have szx1 := hbx1.size
  go_wp2_with fail
  refine (HQ.out _  ).mono ?_
  rintro e x2 ⟨w0, rfl, hbx2, how0⟩
  have szx2 := hbx2.size
  have qo3_0 := cell_keep (kept_trans (hbx1) hbx2) qb0_0
  have qo3_1 := cell_keep (kept_trans (hbx1) hbx2) qb0_1
  have qo3_2 := cell_keep (kept_trans (hbx1) hbx2) qb0_2
  have qo3_3 := cell_keep (kept_trans (hbx1) hbx2) qb0_3
  have qo3_4 := cell_keep (kept_trans (hbx1) hbx2) qb0_4
  go_wp2_with fail
  refine (l_toState c00 c01 c02 c03 c04 _).mono ?_
  rintro e x3 ⟨rfl, hbx3⟩
  have szx3 := hbx3.size
  go_wp2_with fail
  refine (HI.out _  ).mono ?_
  rintro e x4 ⟨g0, rfl, hbx4, hog0⟩
  have szx4 := hbx4.size
  go_wp2_with fail
  refine (eqStateS_any _ _ m0 r0a _ (hog0.sl hm0) (((how0.sl hm0)).kept (kept_trans (hbx3) hbx4))).mono ?_
  rintro e x5 ⟨rfl, hbx5⟩
  have szx5 := hbx5.size
  go_wp2_with fail
  refine (markStateS_any _ m0 _ _ ((hog0.mine hm0).kept hbx5) (by omega) (by omega)).mono ?_
  rintro e x6 ⟨rfl, hgx6, sm0, -⟩
  have szx6 := hgx6.size
  have rwx6 : ∀ b, g0.ownBlock = some b → x2.heap.size ≤ b := fun b hb => by have := (hog0.base b hb).1; omega
  have rWx6 : ∀ b, g0.ownBlock = some b → (W.alloc (.cells #[.int .i64 c00, .bool c01, .bool c02, .bool c03, .bool c04] 51)).heap.size ≤ b := fun b hb => by have := (kept_trans (hbx1) hbx2).size; have := rwx6 b hb; omega
  go_wp2_with fail
  refine (heldStateS_any _ m0 _ _ (sm0) (by omega) (by omega)).mono ?_
  rintro e x7 ⟨rfl, hbx7⟩
  have szx7 := hbx7.size
  have qo8_0 := cell_keep (kept_trans (kept_grown (kept_trans (kept_trans (kept_trans (kept_trans (hbx1) hbx2) hbx3) hbx4) hbx5) hgx6 rWx6) hbx7) qb0_0
  have qo8_1 := cell_keep (kept_trans (kept_grown (kept_trans (kept_trans (kept_trans (kept_trans (hbx1) hbx2) hbx3) hbx4) hbx5) hgx6 rWx6) hbx7) qb0_1
  have qo8_2 := cell_keep (kept_trans (kept_grown (kept_trans (kept_trans (kept_trans (kept_trans (hbx1) hbx2) hbx3) hbx4) hbx5) hgx6 rWx6) hbx7) qb0_2
  have qo8_3 := cell_keep (kept_trans (kept_grown (kept_trans (kept_trans (kept_trans (kept_trans (hbx1) hbx2) hbx3) hbx4) hbx5) hgx6 rWx6) hbx7) qb0_3
  have qo8_4 := cell_keep (kept_trans (kept_grown (kept_trans (kept_trans (kept_trans (kept_trans (hbx1) hbx2) hbx3) hbx4) hbx5) hgx6 rWx6) hbx7) qb0_4
  go_wp2_with fail
  refine (l_toState c00 c01 c02 c03 c04 _).mono ?_
  rintro e x8 ⟨rfl, hbx8⟩
  have szx8 := hbx8.size
  go_wp2_with fail
  refine (HI.out _  ).mono ?_
  rintro e x9 ⟨h0, rfl, hbx9, hoh0⟩
  have szx9 := hbx9.size
  go_wp2_with fail
  refine (eqStateS_any _ _ m0 r0a _ (hoh0.sl hm0) ((how0.sl hm0).kept (kept_trans (kept_trans (kept_trans (kept_grown (kept_trans (kept_trans (hbx3) hbx4) hbx5) hgx6 rwx6) hbx7) hbx8) hbx9))).mono ?_
  rintro e x10 ⟨rfl, hbx10⟩
  have szx10 := hbx10.size
  go_wp2_with fail
  refine (heldStateS_any _ m0 _ _ (((((sm0).kept hbx7).kept hbx8).kept hbx9).kept hbx10) (by omega) (by omega)).mono ?_
  rintro e x11 ⟨rfl, hbx11⟩
  have szx11 := hbx11.size
  go_wp2_with fail
  go_ret
  exact ⟨rfl, kept_trans KB0 (kept_trans (kept_trans (kept_trans (kept_trans (kept_trans (kept_grown (kept_trans (kept_trans (kept_trans (kept_trans (hbx1) hbx2) hbx3) hbx4) hbx5) hgx6 rWx6) hbx7) hbx8) hbx9) hbx10) hbx11)⟩

theorem l_StateMoves_of {W : World} (c00 : Int) (c01 : Bool) (c02 : Bool) (c03 : Bool) (c04 : Bool) 
    (m0 : Nat) (r0a : List (Nat × Nat × Nat)) (hm0 : m0 ≤ 17592186044416) (r1 : Int)
    (HQ : Hid (∀ w, Calls Try.prog 37 #[.agg #[.int .i64 c00, .bool c01, .bool c02, .bool c03, .bool c04]] w (fun en w' => ∃ g0, en = .returned (.tuple #[g0, .int .i64 r1]) ∧ Below w.heap.size w w' ∧ Out w' w.heap.size 77 3 g0 m0 (mvc r0a))))
    (HI : Hid (∀ w, Calls Try.prog 38 #[.agg #[.int .i64 c00, .bool c01, .bool c02, .bool c03, .bool c04]] w (fun en w' => ∃ g0, en = .returned (.tuple #[g0, .int .i64 r1]) ∧ Below w.heap.size w w' ∧ Out w' w.heap.size 77 3 g0 m0 (mvc r0a)))) :
    Calls Try.prog 7 #[.agg #[.int .i64 c00, .bool c01, .bool c02, .bool c03, .bool c04]] W (Truly W) := by
  have hm0' : (m0 : Int) ≤ 17592186044416 := by omega
  have qb0_0 : (W.alloc (.cells #[.int .i64 c00, .bool c01, .bool c02, .bool c03, .bool c04] 51)).cell? ⟨W.heap.size, 0, none⟩ = some (.int .i64 c00) := boxed_at rfl rfl
  have qb0_1 : (W.alloc (.cells #[.int .i64 c00, .bool c01, .bool c02, .bool c03, .bool c04] 51)).cell? ⟨W.heap.size, 1, none⟩ = some (.bool c01) := boxed_at rfl rfl
  have qb0_2 : (W.alloc (.cells #[.int .i64 c00, .bool c01, .bool c02, .bool c03, .bool c04] 51)).cell? ⟨W.heap.size, 2, none⟩ = some (.bool c02) := boxed_at rfl rfl
  have qb0_3 : (W.alloc (.cells #[.int .i64 c00, .bool c01, .bool c02, .bool c03, .bool c04] 51)).cell? ⟨W.heap.size, 3, none⟩ = some (.bool c03) := boxed_at rfl rfl
  have qb0_4 : (W.alloc (.cells #[.int .i64 c00, .bool c01, .bool c02, .bool c03, .bool c04] 51)).cell? ⟨W.heap.size, 4, none⟩ = some (.bool c04) := boxed_at rfl rfl
  have KB0 : Below W.heap.size W (W.alloc (.cells #[.int .i64 c00, .bool c01, .bool c02, .bool c03, .bool c04] 51)) := kept_alloc (Below.refl _ _) (.cells #[.int .i64 c00, .bool c01, .bool c02, .bool c03, .bool c04] 51)
  go_enter Try.func7, Try.ntmps7
  go_wp2_with fail
  refine (l_toState c00 c01 c02 c03 c04 _).mono ?_
  rintro e x1 ⟨rfl, hbx1⟩
  have szx1 := hbx1.size
  go_wp2_with fail
  refine (HQ.out _  ).mono ?_
  rintro e x2 ⟨w0, rfl, hbx2, how0⟩
  have szx2 := hbx2.size
  have qo3_0 := cell_keep (kept_trans (hbx1) hbx2) qb0_0
  have qo3_1 := cell_keep (kept_trans (hbx1) hbx2) qb0_1
  have qo3_2 := cell_keep (kept_trans (hbx1) hbx2) qb0_2
  have qo3_3 := cell_keep (kept_trans (hbx1) hbx2) qb0_3
  have qo3_4 := cell_keep (kept_trans (hbx1) hbx2) qb0_4
  go_wp2_with fail
  refine (l_toState c00 c01 c02 c03 c04 _).mono ?_
  rintro e x3 ⟨rfl, hbx3⟩
  have szx3 := hbx3.size
  go_wp2_with fail
  refine (HI.out _  ).mono ?_
  rintro e x4 ⟨g0, rfl, hbx4, hog0⟩
  have szx4 := hbx4.size
  go_wp2_with fail
  refine (eqMoveS_any _ _ m0 r0a _ (hog0.sl hm0) (((how0.sl hm0)).kept (kept_trans (hbx3) hbx4))).mono ?_
  rintro e x5 ⟨rfl, hbx5⟩
  have szx5 := hbx5.size
  go_wp2_with fail
  refine (markMoveS_any _ m0 _ _ ((hog0.mine hm0).kept hbx5) (by omega) (by omega)).mono ?_
  rintro e x6 ⟨rfl, hgx6, sm0, -⟩
  have szx6 := hgx6.size
  have rwx6 : ∀ b, g0.ownBlock = some b → x2.heap.size ≤ b := fun b hb => by have := (hog0.base b hb).1; omega
  have rWx6 : ∀ b, g0.ownBlock = some b → (W.alloc (.cells #[.int .i64 c00, .bool c01, .bool c02, .bool c03, .bool c04] 51)).heap.size ≤ b := fun b hb => by have := (kept_trans (hbx1) hbx2).size; have := rwx6 b hb; omega
  go_wp2_with fail
  refine (heldMoveS_any _ m0 _ _ (sm0) (by omega) (by omega)).mono ?_
  rintro e x7 ⟨rfl, hbx7⟩
  have szx7 := hbx7.size
  have qo8_0 := cell_keep (kept_trans (kept_grown (kept_trans (kept_trans (kept_trans (kept_trans (hbx1) hbx2) hbx3) hbx4) hbx5) hgx6 rWx6) hbx7) qb0_0
  have qo8_1 := cell_keep (kept_trans (kept_grown (kept_trans (kept_trans (kept_trans (kept_trans (hbx1) hbx2) hbx3) hbx4) hbx5) hgx6 rWx6) hbx7) qb0_1
  have qo8_2 := cell_keep (kept_trans (kept_grown (kept_trans (kept_trans (kept_trans (kept_trans (hbx1) hbx2) hbx3) hbx4) hbx5) hgx6 rWx6) hbx7) qb0_2
  have qo8_3 := cell_keep (kept_trans (kept_grown (kept_trans (kept_trans (kept_trans (kept_trans (hbx1) hbx2) hbx3) hbx4) hbx5) hgx6 rWx6) hbx7) qb0_3
  have qo8_4 := cell_keep (kept_trans (kept_grown (kept_trans (kept_trans (kept_trans (kept_trans (hbx1) hbx2) hbx3) hbx4) hbx5) hgx6 rWx6) hbx7) qb0_4
  go_wp2_with fail
  refine (l_toState c00 c01 c02 c03 c04 _).mono ?_
  rintro e x8 ⟨rfl, hbx8⟩
  have szx8 := hbx8.size
  go_wp2_with fail
  refine (HI.out _  ).mono ?_
  rintro e x9 ⟨h0, rfl, hbx9, hoh0⟩
  have szx9 := hbx9.size
  go_wp2_with fail
  refine (eqMoveS_any _ _ m0 r0a _ (hoh0.sl hm0) ((how0.sl hm0).kept (kept_trans (kept_trans (kept_trans (kept_grown (kept_trans (kept_trans (hbx3) hbx4) hbx5) hgx6 rwx6) hbx7) hbx8) hbx9))).mono ?_
  rintro e x10 ⟨rfl, hbx10⟩
  have szx10 := hbx10.size
  go_wp2_with fail
  refine (heldMoveS_any _ m0 _ _ (((((sm0).kept hbx7).kept hbx8).kept hbx9).kept hbx10) (by omega) (by omega)).mono ?_
  rintro e x11 ⟨rfl, hbx11⟩
  have szx11 := hbx11.size
  go_wp2_with fail
  go_ret
  exact ⟨rfl, kept_trans KB0 (kept_trans (kept_trans (kept_trans (kept_trans (kept_trans (kept_grown (kept_trans (kept_trans (kept_trans (kept_trans (hbx1) hbx2) hbx3) hbx4) hbx5) hgx6 rWx6) hbx7) hbx8) hbx9) hbx10) hbx11)⟩

theorem l_DeadStates_of {W : World} (c00 : Int) (c01 : Bool) (c02 : Bool) (c03 : Bool) (c04 : Bool) 
    (m0 : Nat) (r0a : List Nat) (hm0 : m0 ≤ 17592186044416) (r1 : Int)
    (HQ : Hid (∀ w, Calls Try.prog 51 #[.agg #[.int .i64 c00, .bool c01, .bool c02, .bool c03, .bool c04]] w (fun en w' => ∃ g0, en = .returned (.tuple #[g0, .int .i64 r1]) ∧ Below w.heap.size w w' ∧ Out w' w.heap.size 53 5 g0 m0 (stc r0a))))
    (HI : Hid (∀ w, Calls Try.prog 52 #[.agg #[.int .i64 c00, .bool c01, .bool c02, .bool c03, .bool c04]] w (fun en w' => ∃ g0, en = .returned (.tuple #[g0, .int .i64 r1]) ∧ Below w.heap.size w w' ∧ Out w' w.heap.size 53 5 g0 m0 (stc r0a)))) :
    Calls Try.prog 11 #[.agg #[.int .i64 c00, .bool c01, .bool c02, .bool c03, .bool c04]] W (Truly W) := by
  have hm0' : (m0 : Int) ≤ 17592186044416 := by omega
  have qb0_0 : (W.alloc (.cells #[.int .i64 c00, .bool c01, .bool c02, .bool c03, .bool c04] 51)).cell? ⟨W.heap.size, 0, none⟩ = some (.int .i64 c00) := boxed_at rfl rfl
  have qb0_1 : (W.alloc (.cells #[.int .i64 c00, .bool c01, .bool c02, .bool c03, .bool c04] 51)).cell? ⟨W.heap.size, 1, none⟩ = some (.bool c01) := boxed_at rfl rfl
  have qb0_2 : (W.alloc (.cells #[.int .i64 c00, .bool c01, .bool c02, .bool c03, .bool c04] 51)).cell? ⟨W.heap.size, 2, none⟩ = some (.bool c02) := boxed_at rfl rfl
  have qb0_3 : (W.alloc (.cells #[.int .i64 c00, .bool c01, .bool c02, .bool c03, .bool c04] 51)).cell? ⟨W.heap.size, 3, none⟩ = some (.bool c03) := boxed_at rfl rfl
  have qb0_4 : (W.alloc (.cells #[.int .i64 c00, .bool c01, .bool c02, .bool c03, .bool c04] 51)).cell? ⟨W.heap.size, 4, none⟩ = some (.bool c04) := boxed_at rfl rfl
  have KB0 : Below W.heap.size W (W.alloc (.cells #[.int .i64 c00, .bool c01, .bool c02, .bool c03, .bool c04] 51)) := kept_alloc (Below.refl _ _) (.cells #[.int .i64 c00, .bool c01, .bool c02, .bool c03, .bool c04] 51)
  go_enter Try.func11, Try.ntmps11
  go_wp2_with fail
  refine (l_toState c00 c01 c02 c03 c04 _).mono ?_
  rintro e x1 ⟨rfl, hbx1⟩
  have szx1 := hbx1.size
  go_wp2_with fail
  refine (HQ.out _  ).mono ?_
  rintro e x2 ⟨w0, rfl, hbx2, how0⟩
  have szx2 := hbx2.size
  have qo3_0 := cell_keep (kept_trans (hbx1) hbx2) qb0_0
  have qo3_1 := cell_keep (kept_trans (hbx1) hbx2) qb0_1
  have qo3_2 := cell_keep (kept_trans (hbx1) hbx2) qb0_2
  have qo3_3 := cell_keep (kept_trans (hbx1) hbx2) qb0_3
  have qo3_4 := cell_keep (kept_trans (hbx1) hbx2) qb0_4
  go_wp2_with fail
  refine (l_toState c00 c01 c02 c03 c04 _).mono ?_
  rintro e x3 ⟨rfl, hbx3⟩
  have szx3 := hbx3.size
  go_wp2_with fail
  refine (HI.out _  ).mono ?_
  rintro e x4 ⟨g0, rfl, hbx4, hog0⟩
  have szx4 := hbx4.size
  go_wp2_with fail
  refine (eqStateS_any _ _ m0 r0a _ (hog0.sl hm0) (((how0.sl hm0)).kept (kept_trans (hbx3) hbx4))).mono ?_
  rintro e x5 ⟨rfl, hbx5⟩
  have szx5 := hbx5.size
  go_wp2_with fail
  refine (markStateS_any _ m0 _ _ ((hog0.mine hm0).kept hbx5) (by omega) (by omega)).mono ?_
  rintro e x6 ⟨rfl, hgx6, sm0, -⟩
  have szx6 := hgx6.size
  have rwx6 : ∀ b, g0.ownBlock = some b → x2.heap.size ≤ b := fun b hb => by have := (hog0.base b hb).1; omega
  have rWx6 : ∀ b, g0.ownBlock = some b → (W.alloc (.cells #[.int .i64 c00, .bool c01, .bool c02, .bool c03, .bool c04] 51)).heap.size ≤ b := fun b hb => by have := (kept_trans (hbx1) hbx2).size; have := rwx6 b hb; omega
  go_wp2_with fail
  refine (heldStateS_any _ m0 _ _ (sm0) (by omega) (by omega)).mono ?_
  rintro e x7 ⟨rfl, hbx7⟩
  have szx7 := hbx7.size
  have qo8_0 := cell_keep (kept_trans (kept_grown (kept_trans (kept_trans (kept_trans (kept_trans (hbx1) hbx2) hbx3) hbx4) hbx5) hgx6 rWx6) hbx7) qb0_0
  have qo8_1 := cell_keep (kept_trans (kept_grown (kept_trans (kept_trans (kept_trans (kept_trans (hbx1) hbx2) hbx3) hbx4) hbx5) hgx6 rWx6) hbx7) qb0_1
  have qo8_2 := cell_keep (kept_trans (kept_grown (kept_trans (kept_trans (kept_trans (kept_trans (hbx1) hbx2) hbx3) hbx4) hbx5) hgx6 rWx6) hbx7) qb0_2
  have qo8_3 := cell_keep (kept_trans (kept_grown (kept_trans (kept_trans (kept_trans (kept_trans (hbx1) hbx2) hbx3) hbx4) hbx5) hgx6 rWx6) hbx7) qb0_3
  have qo8_4 := cell_keep (kept_trans (kept_grown (kept_trans (kept_trans (kept_trans (kept_trans (hbx1) hbx2) hbx3) hbx4) hbx5) hgx6 rWx6) hbx7) qb0_4
  go_wp2_with fail
  refine (l_toState c00 c01 c02 c03 c04 _).mono ?_
  rintro e x8 ⟨rfl, hbx8⟩
  have szx8 := hbx8.size
  go_wp2_with fail
  refine (HI.out _  ).mono ?_
  rintro e x9 ⟨h0, rfl, hbx9, hoh0⟩
  have szx9 := hbx9.size
  go_wp2_with fail
  refine (eqStateS_any _ _ m0 r0a _ (hoh0.sl hm0) ((how0.sl hm0).kept (kept_trans (kept_trans (kept_trans (kept_grown (kept_trans (kept_trans (hbx3) hbx4) hbx5) hgx6 rwx6) hbx7) hbx8) hbx9))).mono ?_
  rintro e x10 ⟨rfl, hbx10⟩
  have szx10 := hbx10.size
  go_wp2_with fail
  refine (heldStateS_any _ m0 _ _ (((((sm0).kept hbx7).kept hbx8).kept hbx9).kept hbx10) (by omega) (by omega)).mono ?_
  rintro e x11 ⟨rfl, hbx11⟩
  have szx11 := hbx11.size
  go_wp2_with fail
  go_ret
  exact ⟨rfl, kept_trans KB0 (kept_trans (kept_trans (kept_trans (kept_trans (kept_trans (kept_grown (kept_trans (kept_trans (kept_trans (kept_trans (hbx1) hbx2) hbx3) hbx4) hbx5) hgx6 rWx6) hbx7) hbx8) hbx9) hbx10) hbx11)⟩

end Go.Proofs.Ytkloolhngddpiaa
