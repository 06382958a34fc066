/- The walk of the law on ways, over any answers of the two functions that it compares. -/
import Derived.Test.YtkloolhngddpiaaAggs
import Derived.Test.YtkloolhngddpiaaInts
import Derived.Deep.DeepMust
import Derived.Deep.RegionHeld3
import Derived.Deep.DeepCutAuto
import Derived.IntWalk
namespace Go.Proofs.Ytkloolhngddpiaa
open Go.RowKit Go.Deep
set_option maxRecDepth 100000
set_option linter.unusedVariables false

theorem cell_kept {w w1 : World} {b o : Nat} {v : Value} (hc : w.cell? ⟨b, o, none⟩ = some v) (hb : Below w.heap.size w w1) : w1.cell? ⟨b, o, none⟩ = some v := cell_keep hb hc

set_option maxHeartbeats 3200000 in
theorem l_WayTo_of {W : World} (c00 : Int) (c01 c02 c03 c04 : Bool) (c10 : Int) (c11 c12 c13 c14 : Bool)
    (m0 : Nat) (r0a : Nat → Int) (hm0 : m0 ≤ 17592186044416) (r1 : Int)
    (HQ : Hid (∀ w, Calls Try.prog 49 #[.agg #[.int .i64 c00, .bool c01, .bool c02, .bool c03, .bool c04], .agg #[.int .i64 c10, .bool c11, .bool c12, .bool c13, .bool c14]] w (fun en w' => ∃ g0, en = .returned (.tuple #[g0, .int .i64 r1]) ∧ Below w.heap.size w w' ∧ Out w' w.heap.size 2 1 g0 m0 (ic r0a))))
    (HI : Hid (∀ w, Calls Try.prog 50 #[.agg #[.int .i64 c00, .bool c01, .bool c02, .bool c03, .bool c04], .agg #[.int .i64 c10, .bool c11, .bool c12, .bool c13, .bool c14]] w (fun en w' => ∃ g0, en = .returned (.tuple #[g0, .int .i64 r1]) ∧ Below w.heap.size w w' ∧ Out w' w.heap.size 2 1 g0 m0 (ic r0a)))) :
    Calls Try.prog 10 #[.agg #[.int .i64 c00, .bool c01, .bool c02, .bool c03, .bool c04], .agg #[.int .i64 c10, .bool c11, .bool c12, .bool c13, .bool c14]] W (Truly W) := by
  have hm0' : (m0 : Int) ≤ 17592186044416 := by omega
  have hn2 : (W.alloc (.cells #[.int .i64 c00, .bool c01, .bool c02, .bool c03, .bool c04] 51)).heap.size = W.heap.size + 1 := by simp
  have KB0 := kept_alloc (kept_alloc (Below.refl W.heap.size W) (.cells #[.int .i64 c00, .bool c01, .bool c02, .bool c03, .bool c04] 51)) (.cells #[.int .i64 c10, .bool c11, .bool c12, .bool c13, .bool c14] 51)
  obtain ⟨WB, hWB⟩ : ∃ WB, WB = (W.alloc (.cells #[.int .i64 c00, .bool c01, .bool c02, .bool c03, .bool c04] 51)).alloc (.cells #[.int .i64 c10, .bool c11, .bool c12, .bool c13, .bool c14] 51) := ⟨_, rfl⟩
  have q0_0 : WB.cell? ⟨W.heap.size, 0, none⟩ = some (.int .i64 c00) := by rw [hWB]; exact cell_keep (kept_alloc (Below.refl _ _) _) (boxed_at rfl rfl)
  have q1_0 : WB.cell? ⟨W.heap.size + 1, 0, none⟩ = some (.int .i64 c10) := by rw [hWB]; exact boxed_at hn2 rfl
  have q0_1 : WB.cell? ⟨W.heap.size, 1, none⟩ = some (.bool c01) := by rw [hWB]; exact cell_keep (kept_alloc (Below.refl _ _) _) (boxed_at rfl rfl)
  have q1_1 : WB.cell? ⟨W.heap.size + 1, 1, none⟩ = some (.bool c11) := by rw [hWB]; exact boxed_at hn2 rfl
  have q0_2 : WB.cell? ⟨W.heap.size, 2, none⟩ = some (.bool c02) := by rw [hWB]; exact cell_keep (kept_alloc (Below.refl _ _) _) (boxed_at rfl rfl)
  have q1_2 : WB.cell? ⟨W.heap.size + 1, 2, none⟩ = some (.bool c12) := by rw [hWB]; exact boxed_at hn2 rfl
  have q0_3 : WB.cell? ⟨W.heap.size, 3, none⟩ = some (.bool c03) := by rw [hWB]; exact cell_keep (kept_alloc (Below.refl _ _) _) (boxed_at rfl rfl)
  have q1_3 : WB.cell? ⟨W.heap.size + 1, 3, none⟩ = some (.bool c13) := by rw [hWB]; exact boxed_at hn2 rfl
  have q0_4 : WB.cell? ⟨W.heap.size, 4, none⟩ = some (.bool c04) := by rw [hWB]; exact cell_keep (kept_alloc (Below.refl _ _) _) (boxed_at rfl rfl)
  have q1_4 : WB.cell? ⟨W.heap.size + 1, 4, none⟩ = some (.bool c14) := by rw [hWB]; exact boxed_at hn2 rfl
  rw [← hWB] at KB0
  have HWB := Lib.hid hWB
  clear hWB hn2
  go_enter Try.func10, Try.ntmps10
  go_upto_region 1 with (fail)
  rw [← HWB.out]
  go_cut [5, 6] (fun p e wx => e = .int .i64 r1 ∧ Below WB.heap.size WB wx ∧ Out wx WB.heap.size 2 1 p m0 (ic r0a))
  case first =>
    go_region_held3 (fun w' => w'.cell? ⟨W.heap.size, 0, none⟩ = some (.int .i64 c00) ∧ w'.cell? ⟨W.heap.size, 1, none⟩ = some (.bool c01) ∧ w'.cell? ⟨W.heap.size, 2, none⟩ = some (.bool c02) ∧ w'.cell? ⟨W.heap.size, 3, none⟩ = some (.bool c03) ∧ w'.cell? ⟨W.heap.size, 4, none⟩ = some (.bool c04) ∧ w'.cell? ⟨W.heap.size + 1, 0, none⟩ = some (.int .i64 c10) ∧ w'.cell? ⟨W.heap.size + 1, 1, none⟩ = some (.bool c11) ∧ w'.cell? ⟨W.heap.size + 1, 2, none⟩ = some (.bool c12) ∧ w'.cell? ⟨W.heap.size + 1, 3, none⟩ = some (.bool c13) ∧ w'.cell? ⟨W.heap.size + 1, 4, none⟩ = some (.bool c14)) (((try dsimp only); (repeat' apply And.intro) <;> (first | (go_keep; done) | (apply cell_kept; assumption; repeat (first | assumption | exact Below.refl _ _ | refine kept_drew ?_ | refine kept_alloc ?_ _ | refine kept_trans ?_ (by assumption)))))) (first | (go_at_call 35; refine (l_toState _ _ _ _ _ _).mono ?_; rintro e x1 ⟨rfl, hbx1⟩) | (go_at_call 49; refine (HQ.out _).mono ?_; rintro e x3 ⟨gg, rfl, hbx3, hog⟩))
    all_goals
      go_wp2_with fail
      go_meet
      exact ⟨rfl, (by repeat (first | assumption | exact Below.refl _ _ | refine kept_drew ?_ | refine kept_alloc ?_ _ | refine kept_trans ?_ (by assumption))), hog.base_le (Below.size (by repeat (first | assumption | exact Below.refl _ _ | refine kept_drew ?_ | refine kept_alloc ?_ _ | refine kept_trans ?_ (by assumption)) : Below WB.heap.size WB _))⟩
  case rest =>
    obtain ⟨wa, hwa⟩ : ∃ wa, wa = wc := ⟨_, rfl⟩
    rw [← hwa] at hcut ⊢
    clear hwa
    obtain ⟨rfl, hba, how0⟩ := hcut
    have p0_0 := cell_keep hba q0_0
    have p1_0 := cell_keep hba q1_0
    have p0_1 := cell_keep hba q0_1
    have p1_1 := cell_keep hba q1_1
    have p0_2 := cell_keep hba q0_2
    have p1_2 := cell_keep hba q1_2
    have p0_3 := cell_keep hba q0_3
    have p1_3 := cell_keep hba q1_3
    have p0_4 := cell_keep hba q0_4
    have p1_4 := cell_keep hba q1_4
    go_upto_region 2 with (fail)
    go_cut [7, 8] (fun p e wx => e = .int .i64 r1 ∧ Below wa.heap.size wa wx ∧ Out wx wa.heap.size 2 1 p m0 (ic r0a))
    case first =>
      go_region_held3 (fun w' => w'.cell? ⟨W.heap.size, 0, none⟩ = some (.int .i64 c00) ∧ w'.cell? ⟨W.heap.size, 1, none⟩ = some (.bool c01) ∧ w'.cell? ⟨W.heap.size, 2, none⟩ = some (.bool c02) ∧ w'.cell? ⟨W.heap.size, 3, none⟩ = some (.bool c03) ∧ w'.cell? ⟨W.heap.size, 4, none⟩ = some (.bool c04) ∧ w'.cell? ⟨W.heap.size + 1, 0, none⟩ = some (.int .i64 c10) ∧ w'.cell? ⟨W.heap.size + 1, 1, none⟩ = some (.bool c11) ∧ w'.cell? ⟨W.heap.size + 1, 2, none⟩ = some (.bool c12) ∧ w'.cell? ⟨W.heap.size + 1, 3, none⟩ = some (.bool c13) ∧ w'.cell? ⟨W.heap.size + 1, 4, none⟩ = some (.bool c14)) (((try dsimp only); (repeat' apply And.intro) <;> (first | (go_keep; done) | (apply cell_kept; assumption; repeat (first | assumption | exact Below.refl _ _ | refine kept_drew ?_ | refine kept_alloc ?_ _ | refine kept_trans ?_ (by assumption)))))) (first | (go_at_call 35; refine (l_toState _ _ _ _ _ _).mono ?_; rintro e x1 ⟨rfl, hbx1⟩) | (go_at_call 50; refine (HI.out _).mono ?_; rintro e x3 ⟨gg, rfl, hbx3, hog⟩))
      all_goals
        go_wp2_with fail
        go_meet
        exact ⟨rfl, (by repeat (first | assumption | exact Below.refl _ _ | refine kept_drew ?_ | refine kept_alloc ?_ _ | refine kept_trans ?_ (by assumption))), hog.base_le (Below.size (by repeat (first | assumption | exact Below.refl _ _ | refine kept_drew ?_ | refine kept_alloc ?_ _ | refine kept_trans ?_ (by assumption)) : Below wa.heap.size wa _))⟩
    case rest =>
      obtain ⟨wb, hwb⟩ : ∃ wb, wb = wc := ⟨_, rfl⟩
      rw [← hwb] at hcut ⊢
      clear hwb
      obtain ⟨rfl, hbb, hog0⟩ := hcut
      go_wp2_with fail
      refine (eqInt64S_any _ _ m0 r0a _ (hog0.sl hm0) ((how0.sl hm0).kept hbb)).mono ?_
      rintro e x5 ⟨rfl, hbx5⟩
      go_wp2_with fail
      refine (markInt64S_any _ m0 _ _ ((hog0.mine hm0).kept hbx5) (by omega) (by omega)).mono ?_
      rintro e x6 ⟨rfl, hgx6, sm0, -⟩
      have KX6 : Below wa.heap.size wa x6 := kept_grown (kept_trans hbb hbx5) hgx6 (fun b hb => (hog0.base b hb).1)
      go_wp2_with fail
      refine (heldInt64S_any _ m0 _ _ (sm0) (by omega) (by omega)).mono ?_
      rintro e x7 ⟨rfl, hbx7⟩
      have KX7 := kept_trans KX6 hbx7
      have r0_0 := cell_keep KX7 p0_0
      have r1_0 := cell_keep KX7 p1_0
      have r0_1 := cell_keep KX7 p0_1
      have r1_1 := cell_keep KX7 p1_1
      have r0_2 := cell_keep KX7 p0_2
      have r1_2 := cell_keep KX7 p1_2
      have r0_3 := cell_keep KX7 p0_3
      have r1_3 := cell_keep KX7 p1_3
      have r0_4 := cell_keep KX7 p0_4
      have r1_4 := cell_keep KX7 p1_4
      go_upto_region 13 with (fail)
      go_cut [11, 12] (fun p e wx => e = .int .i64 r1 ∧ Below x7.heap.size x7 wx ∧ Out wx x7.heap.size 2 1 p m0 (ic r0a))
      case first =>
        go_region_held3 (fun w' => w'.cell? ⟨W.heap.size, 0, none⟩ = some (.int .i64 c00) ∧ w'.cell? ⟨W.heap.size, 1, none⟩ = some (.bool c01) ∧ w'.cell? ⟨W.heap.size, 2, none⟩ = some (.bool c02) ∧ w'.cell? ⟨W.heap.size, 3, none⟩ = some (.bool c03) ∧ w'.cell? ⟨W.heap.size, 4, none⟩ = some (.bool c04) ∧ w'.cell? ⟨W.heap.size + 1, 0, none⟩ = some (.int .i64 c10) ∧ w'.cell? ⟨W.heap.size + 1, 1, none⟩ = some (.bool c11) ∧ w'.cell? ⟨W.heap.size + 1, 2, none⟩ = some (.bool c12) ∧ w'.cell? ⟨W.heap.size + 1, 3, none⟩ = some (.bool c13) ∧ w'.cell? ⟨W.heap.size + 1, 4, none⟩ = some (.bool c14)) (((try dsimp only); (repeat' apply And.intro) <;> (first | (go_keep; done) | (apply cell_kept; assumption; repeat (first | assumption | exact Below.refl _ _ | refine kept_drew ?_ | refine kept_alloc ?_ _ | refine kept_trans ?_ (by assumption)))))) (first | (go_at_call 35; refine (l_toState _ _ _ _ _ _).mono ?_; rintro e x1 ⟨rfl, hbx1⟩) | (go_at_call 50; refine (HI.out _).mono ?_; rintro e x3 ⟨gg, rfl, hbx3, hog⟩))
        all_goals
          go_wp2_with fail
          go_meet
          exact ⟨rfl, (by repeat (first | assumption | exact Below.refl _ _ | refine kept_drew ?_ | refine kept_alloc ?_ _ | refine kept_trans ?_ (by assumption))), hog.base_le (Below.size (by repeat (first | assumption | exact Below.refl _ _ | refine kept_drew ?_ | refine kept_alloc ?_ _ | refine kept_trans ?_ (by assumption)) : Below x7.heap.size x7 _))⟩
      case rest =>
        obtain ⟨wd, hwd⟩ : ∃ wd, wd = wc := ⟨_, rfl⟩
        rw [← hwd] at hcut ⊢
        clear hwd
        obtain ⟨rfl, hbc, hoh0⟩ := hcut
        go_wp2_with fail
        refine (eqInt64S_any _ _ m0 r0a _ (hoh0.sl hm0) ((how0.sl hm0).kept (kept_trans KX7 hbc))).mono ?_
        rintro e x10 ⟨rfl, hbx10⟩
        go_wp2_with fail
        refine (heldInt64S_any _ m0 _ _ (((sm0.kept hbx7).kept hbc).kept hbx10) (by omega) (by omega)).mono ?_
        rintro e x11 ⟨rfl, hbx11⟩
        go_wp2_with fail
        go_ret
        exact ⟨rfl, kept_trans KB0 (kept_trans hba (kept_trans (kept_trans (kept_trans KX7 hbc) hbx10) hbx11))⟩

end Go.Proofs.Ytkloolhngddpiaa
