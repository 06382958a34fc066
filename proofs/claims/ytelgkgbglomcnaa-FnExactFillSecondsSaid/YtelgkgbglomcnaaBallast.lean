/- Contracts on basins: the reference's functions and the program's compute the same plain functions. -/
import Derived.Test.YtelgkgbglomcnaaBase
namespace Go.Proofs.Ytelgkgbglomcnaa
open Go.RowKit

def vBasin (t r s p : Int) : Bool := inB t 1 20000 && inB r 1 1000 && inB s 0 10000000 && inB p 0 1000
theorem vBasin_out {t r s p : Int} (h : vBasin t r s p = true) : 1 ≤ t ∧ t ≤ 20000 ∧ 1 ≤ r ∧ r ≤ 1000 ∧ 0 ≤ s ∧ s ≤ 10000000 ∧ 0 ≤ p ∧ p ≤ 1000 := by
  simp only [vBasin, Bool.and_eq_true, inB_iff] at h; omega

theorem l_toBasin (t r s p : Int) (W : World) : Calls Try.prog 18 #[.agg #[.int .i64 t, .int .i64 r, .int .i64 s, .int .i64 p]] W fun e W' => e = .returned (.agg #[.int .i64 t, .int .i64 r, .int .i64 s, .int .i64 p]) ∧ Below W.heap.size W W' := by
  go_enter Try.func18, Try.ntmps18
  go_wp2
  refine bodyPost_ret (v := .agg #[.int .i64 t, .int .i64 r, .int .i64 s, .int .i64 p]) (by simp [results, go_sem]) rfl ⟨rfl, (by repeat (first | assumption | exact Below.refl _ _ | refine kept_drew ?_ | refine kept_drewN ?_ _ | refine kept_alloc ?_ _ | refine kept_set ?_ ?_ _ | (simp; done) | (simp; omega) | refine kept_trans ?_ (by assumption)))⟩

theorem i_ValidBasin (t r s p : Int) (W : World) : Calls Try.prog 19 #[.agg #[.int .i64 t, .int .i64 r, .int .i64 s, .int .i64 p]] W fun e W' => e = .returned (.bool (vBasin t r s p)) ∧ Below W.heap.size W W' := by
  go_enter Try.func19, Try.ntmps19
  go_wp2_with (first | (go_at_call 48; refine (i_within _ _ _ _).mono ?_; rintro e w' ⟨rfl, rfl⟩) | (go_at_call 51; refine (i_isStore _ _).mono ?_; rintro e w' ⟨rfl, rfl⟩))
  all_goals
    go_ret
    exact ⟨by simp [vBasin, *], (by repeat (first | assumption | exact Below.refl _ _ | refine kept_drew ?_ | refine kept_drewN ?_ _ | refine kept_alloc ?_ _ | refine kept_set ?_ ?_ _ | (simp; done) | (simp; omega) | refine kept_trans ?_ (by assumption)))⟩

theorem s_l16Ok (t r s p : Int) (W : World) (g : Nat) (h0 : W.cell? ⟨g, 0, none⟩ = some (.int .i64 t)) (h1 : W.cell? ⟨g, 1, none⟩ = some (.int .i64 r)) (h2 : W.cell? ⟨g, 2, none⟩ = some (.int .i64 s)) (h3 : W.cell? ⟨g, 3, none⟩ = some (.int .i64 p)) :
    Calls Try.prog 50 #[.pointer (some ⟨g, 0, none⟩)] W fun e W' => e = .returned (.bool (vBasin t r s p)) ∧ W = W' := by
  go_enter Try.func50, Try.ntmps50
  go_wp2_with (go_at_call 82; refine (s_l00In _ _ _ _).mono ?_; rintro e w' ⟨rfl, rfl⟩)
  all_goals
    go_ret
    exact ⟨by simp [vBasin, *], rfl⟩

theorem s_ValidBasin (t r s p : Int) (W : World) : Calls Try.prog 17 #[.agg #[.int .i64 t, .int .i64 r, .int .i64 s, .int .i64 p]] W fun e W' => e = .returned (.bool (vBasin t r s p)) ∧ Below W.heap.size W W' := by
  go_enter Try.func17, Try.ntmps17
  go_wp2_with (first | (go_at_call 50; refine (s_l16Ok t r s p _ _ (by go_simp) (by go_simp) (by go_simp) (by go_simp)).mono ?_; rintro e w' ⟨rfl, rfl⟩))
  go_ret
  exact ⟨rfl, (by repeat (first | assumption | exact Below.refl _ _ | refine kept_drew ?_ | refine kept_drewN ?_ _ | refine kept_alloc ?_ _ | refine kept_set ?_ ?_ _ | (simp; done) | (simp; omega) | refine kept_trans ?_ (by assumption)))⟩

theorem l_ValidBasin (t r s p : Int) (W : World) : Calls Try.prog 4 #[.agg #[.int .i64 t, .int .i64 r, .int .i64 s, .int .i64 p]] W (Truly W) := by
  go_enter Try.func4, Try.ntmps4
  go_wp2_with (first | (go_at_call 18; refine (l_toBasin _ _ _ _ _).mono ?_; rintro e w1 ⟨rfl, hb⟩; have hk := kept_trans (by first | assumption | exact kept_alloc (by assumption) _ | exact kept_drew (by assumption) | exact Below.refl _ _) hb; obtain ⟨hc, hf⟩ := bcell hk; have hz := hk.size; try simp at hz) | (go_at_call 17; refine (s_ValidBasin _ _ _ _ _).mono ?_; rintro e w1 ⟨rfl, hb⟩; have hk := kept_trans (by first | assumption | exact kept_alloc (by assumption) _ | exact kept_drew (by assumption) | exact Below.refl _ _) hb; obtain ⟨hc, hf⟩ := bcell hk; have hz := hk.size; try simp at hz) | (go_at_call 19; refine (i_ValidBasin _ _ _ _ _).mono ?_; rintro e w1 ⟨rfl, hb⟩; have hk := kept_trans (by first | assumption | exact kept_alloc (by assumption) _ | exact kept_drew (by assumption) | exact Below.refl _ _) hb; obtain ⟨hc, hf⟩ := bcell hk; have hz := hk.size; try simp at hz))
  go_ret
  exact ⟨rfl, (by repeat (first | assumption | exact Below.refl _ _ | refine kept_drew ?_ | refine kept_drewN ?_ _ | refine kept_alloc ?_ _ | refine kept_set ?_ ?_ _ | (simp; done) | (simp; omega) | refine kept_trans ?_ (by assumption)))⟩

theorem i_basined (t r s p : Int) (f : Bool) (W : World) : Calls Try.prog 57 #[.agg #[.int .i64 t, .int .i64 r, .int .i64 s, .int .i64 p], .bool f] W fun e W' => e = .returned (.int .i64 (askCode (vBasin t r s p) f)) ∧ Below W.heap.size W W' := by
  cases hv : vBasin t r s p <;> cases f
  all_goals
    go_enter Try.func57, Try.ntmps57
    go_wp2_with (go_at_call 19; refine (i_ValidBasin _ _ _ _ _).mono ?_; rintro e w1 ⟨rfl, hb⟩; have hk := kept_trans (by first | assumption | exact kept_alloc (by assumption) _ | exact kept_drew (by assumption) | exact Below.refl _ _) hb; obtain ⟨hc, hf⟩ := bcell hk; have hz := hk.size; try simp at hz)
    go_ret
    exact ⟨rfl, (by repeat (first | assumption | exact Below.refl _ _ | refine kept_drew ?_ | refine kept_drewN ?_ _ | refine kept_alloc ?_ _ | refine kept_set ?_ ?_ _ | (simp; done) | (simp; omega) | refine kept_trans ?_ (by assumption)))⟩

def fillS (t r s p water : Int) : Int × Int := if askCode (vBasin t r s p) (inB water 0 20000) = 0 then ((water + r - 1) / r, 0) else (0, askCode (vBasin t r s p) (inB water 0 20000))

theorem i_FillSeconds (t r s p water : Int) (W : World) : Calls Try.prog 25 #[.agg #[.int .i64 t, .int .i64 r, .int .i64 s, .int .i64 p], .int .i64 water] W fun e W' => e = .returned (.tuple #[.int .i64 (fillS t r s p water).1, .int .i64 (fillS t r s p water).2]) ∧ Below W.heap.size W W' := by
  have hb := @vBasin_out t r s p
  have hw := @inB_out water 0 20000
  have k0 : ∀ d os, (Go.Sort.grow (redrawn (W.alloc (.cells #[.int .i64 t, .int .i64 r, .int .i64 s, .int .i64 p] 31)) d) os).cell? ⟨W.heap.size, 0, none⟩ = some (.int .i64 t) := fun d os => boxed 0 _ rfl d os
  have k1 : ∀ d os, (Go.Sort.grow (redrawn (W.alloc (.cells #[.int .i64 t, .int .i64 r, .int .i64 s, .int .i64 p] 31)) d) os).cell? ⟨W.heap.size, 1, none⟩ = some (.int .i64 r) := fun d os => boxed 1 _ rfl d os
  have k2 : ∀ d os, (Go.Sort.grow (redrawn (W.alloc (.cells #[.int .i64 t, .int .i64 r, .int .i64 s, .int .i64 p] 31)) d) os).cell? ⟨W.heap.size, 2, none⟩ = some (.int .i64 s) := fun d os => boxed 2 _ rfl d os
  have k3 : ∀ d os, (Go.Sort.grow (redrawn (W.alloc (.cells #[.int .i64 t, .int .i64 r, .int .i64 s, .int .i64 p] 31)) d) os).cell? ⟨W.heap.size, 3, none⟩ = some (.int .i64 p) := fun d os => boxed 3 _ rfl d os
  cases hv : vBasin t r s p <;> cases hi : inB water 0 20000
  case true.true =>
    have hb := hb hv
    have hw := hw hi
    have HF : Hid (fillS t r s p water = ((water + r - 1) / r, 0)) := by unfold fillS; rw [hv, hi]; rfl
    have e1 : askCode true true = 0 := rfl
    go_enter Try.func25, Try.ntmps25
    go_wp2_with (fail)
    refine wp_region_quiet_below (by kernel_rfl) (by kernel_rfl) ?_
    repeat (quiet_step (first | (go_at_call 58; exact Go.Proofs.Ytelgkgbglomcnaa.Calls.regrown_same (i_isTank _ _)) | (go_at_call 57; exact Calls.regrown_of (i_basined _ _ _ _ _ _))))
    refine wpQuiet_nil ?_
    intro w2 hw2
    have hk := below_of_regrown hw2
    clear hw2 k0 k1 k2 k3
    obtain ⟨hc, hf⟩ := bcell hk
    have hz := hk.size
    try simp at hz
    go_wp2_with (first | (go_at_call 59; refine (i_ceilDiv _ _ _ ?_).mono ?_; (omega); rintro e w' ⟨rfl, rfl⟩))
    go_ret2
    exact ⟨by rw [HF.out]; rfl, (by repeat (first | assumption | exact Below.refl _ _ | refine kept_drew ?_ | refine kept_drewN ?_ _ | refine kept_alloc ?_ _ | refine kept_set ?_ ?_ _ | (simp; done) | (simp; omega) | refine kept_trans ?_ (by assumption)))⟩
  all_goals
    have e0 : askCode false false = 1 := rfl
    have e1 : askCode false true = 1 := rfl
    have e2 : askCode true false = 2 := rfl
    clear hb hw
    go_enter Try.func25, Try.ntmps25
    go_wp2_with (fail)
    refine wp_region_quiet_below (by kernel_rfl) (by kernel_rfl) ?_
    repeat (quiet_step (first | (go_at_call 58; exact Go.Proofs.Ytelgkgbglomcnaa.Calls.regrown_same (i_isTank _ _)) | (go_at_call 57; exact Calls.regrown_of (i_basined _ _ _ _ _ _))))
    refine wpQuiet_nil ?_
    intro w2 hw2
    have hk := below_of_regrown hw2
    clear hw2 k0 k1 k2 k3
    obtain ⟨hc, hf⟩ := bcell hk
    have hz := hk.size
    try simp at hz
    go_wp2_with (fail)
    go_ret2
    exact ⟨by simp [fillS, *], (by repeat (first | assumption | exact Below.refl _ _ | refine kept_drew ?_ | refine kept_drewN ?_ _ | refine kept_alloc ?_ _ | refine kept_set ?_ ?_ _ | (simp; done) | (simp; omega) | refine kept_trans ?_ (by assumption)))⟩

theorem s_FillSeconds (t r s p water : Int) (W : World) : Calls Try.prog 24 #[.agg #[.int .i64 t, .int .i64 r, .int .i64 s, .int .i64 p], .int .i64 water] W fun e W' => e = .returned (.tuple #[.int .i64 (fillS t r s p water).1, .int .i64 (fillS t r s p water).2]) ∧ Below W.heap.size W W' := by
  have hb := @vBasin_out t r s p
  have hw := @inB_out water 0 20000
  cases hv : vBasin t r s p <;> cases hi : inB water 0 20000
  case true.true =>
    have hb := hb hv
    have hw := hw hi
    have HF : Hid (fillS t r s p water = ((water + r - 1) / r, 0)) := by unfold fillS; rw [hv, hi]; rfl
    go_enter Try.func24, Try.ntmps24
    go_wp2_with (first | (go_at_call 56; refine (s_l16Litres _ _).mono ?_; rintro e w' ⟨rfl, rfl⟩) | (go_at_call 50; refine (s_l16Ok t r s p _ _ (by go_simp) (by go_simp) (by go_simp) (by go_simp)).mono ?_; rintro e w' ⟨rfl, rfl⟩))
    go_ret2
    exact ⟨by rw [HF.out]; rfl, (by repeat (first | assumption | exact Below.refl _ _ | refine kept_drew ?_ | refine kept_drewN ?_ _ | refine kept_alloc ?_ _ | refine kept_set ?_ ?_ _ | (simp; done) | (simp; omega) | refine kept_trans ?_ (by assumption)))⟩
  all_goals
    clear hb hw
    go_enter Try.func24, Try.ntmps24
    go_wp2_with (first | (go_at_call 56; refine (s_l16Litres _ _).mono ?_; rintro e w' ⟨rfl, rfl⟩) | (go_at_call 50; refine (s_l16Ok t r s p _ _ (by go_simp) (by go_simp) (by go_simp) (by go_simp)).mono ?_; rintro e w' ⟨rfl, rfl⟩))
    go_ret2
    exact ⟨by simp [fillS, askCode, *], (by repeat (first | assumption | exact Below.refl _ _ | refine kept_drew ?_ | refine kept_drewN ?_ _ | refine kept_alloc ?_ _ | refine kept_set ?_ ?_ _ | (simp; done) | (simp; omega) | refine kept_trans ?_ (by assumption)))⟩

theorem l_FillSeconds (t r s p water : Int) (W : World) : Calls Try.prog 6 #[.agg #[.int .i64 t, .int .i64 r, .int .i64 s, .int .i64 p], .int .i64 water] W (Truly W) := by
  go_enter Try.func6, Try.ntmps6
  go_wp2_with (first | (go_at_call 18; refine (l_toBasin _ _ _ _ _).mono ?_; rintro e w1 ⟨rfl, hb⟩; have hk := kept_trans (by first | assumption | exact kept_alloc (by assumption) _ | exact kept_drew (by assumption) | exact Below.refl _ _) hb; obtain ⟨hc, hf⟩ := bcell hk; have hz := hk.size; try simp at hz) | (go_at_call 24; refine (s_FillSeconds _ _ _ _ _ _).mono ?_; rintro e w1 ⟨rfl, hb⟩; have hk := kept_trans (by first | assumption | exact kept_alloc (by assumption) _ | exact kept_drew (by assumption) | exact Below.refl _ _) hb; obtain ⟨hc, hf⟩ := bcell hk; have hz := hk.size; try simp at hz) | (go_at_call 25; refine (i_FillSeconds _ _ _ _ _ _).mono ?_; rintro e w1 ⟨rfl, hb⟩; have hk := kept_trans (by first | assumption | exact kept_alloc (by assumption) _ | exact kept_drew (by assumption) | exact Below.refl _ _) hb; obtain ⟨hc, hf⟩ := bcell hk; have hz := hk.size; try simp at hz))
  go_ret
  exact ⟨rfl, (by repeat (first | assumption | exact Below.refl _ _ | refine kept_drew ?_ | refine kept_drewN ?_ _ | refine kept_alloc ?_ _ | refine kept_set ?_ ?_ _ | (simp; done) | (simp; omega) | refine kept_trans ?_ (by assumption)))⟩

end Go.Proofs.Ytelgkgbglomcnaa
