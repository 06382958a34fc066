/- Contracts on basins: the reference's functions and the program's compute the same plain functions. -/
import Derived.Test.YtelgkgbglomcnaaFuncs
namespace Go.Proofs.Ytelgkgbglomcnaa
open Go.RowKit Go.Deep

def vBasin (t r s p : Int) : Bool := inB t 1 20000 && inB r 1 1000 && inB s 0 10000000 && inB p 0 1000
theorem vBasin_out {t r s p : Int} (h : vBasin t r s p = true) : 1 ≤ t ∧ t ≤ 20000 ∧ 1 ≤ r ∧ r ≤ 1000 ∧ 0 ≤ s ∧ s ≤ 10000000 ∧ 0 ≤ p ∧ p ≤ 1000 := by
  simp only [vBasin, Bool.and_eq_true, inB_iff] at h; omega

theorem l_toBasin (t r s p : Int) (W : World) : Calls Try.prog 18 #[.agg #[.int .i64 t, .int .i64 r, .int .i64 s, .int .i64 p]] W fun e W' => e = .returned (.agg #[.int .i64 t, .int .i64 r, .int .i64 s, .int .i64 p]) ∧ Below W.heap.size W W' := by
  go_enter Try.func18, Try.ntmps18
  go_wp2
  refine bodyPost_ret (v := .agg #[.int .i64 t, .int .i64 r, .int .i64 s, .int .i64 p]) (by simp [results, go_sem]) rfl ⟨rfl, (by repeat (first | assumption | exact Below.refl _ _ | refine kept_drew ?_ | refine kept_drewN ?_ _ | refine kept_alloc ?_ _ | refine kept_set ?_ ?_ _ | (simp; done) | (simp; omega) | refine kept_trans ?_ (by assumption)))⟩

theorem i_ValidBasin (t r s p : Int) (W : World) : Calls Try.prog 19 #[.agg #[.int .i64 t, .int .i64 r, .int .i64 s, .int .i64 p]] W fun e W' => e = .returned (.bool (vBasin t r s p)) ∧ Below W.heap.size W W' := by
  go_enter Try.func19, Try.ntmps19
  go_wp2_with (first | (go_at_call 48; refine (i_within _ _ _ _).mono ?_; rintro e w' ⟨rfl, rfl⟩) | (go_at_call 51; refine (i_isStore _ _).mono ?_; rintro e w' ⟨rfl, rfl⟩))
  all_goals
    go_ret
    exact ⟨by simp [vBasin, *], (by repeat (first | assumption | exact Below.refl _ _ | refine kept_drew ?_ | refine kept_drewN ?_ _ | refine kept_alloc ?_ _ | refine kept_set ?_ ?_ _ | (simp; done) | (simp; omega) | refine kept_trans ?_ (by assumption)))⟩

theorem s_l16Ok (t r s p : Int) (W : World) (g : Nat) (h0 : W.cell? ⟨g, 0, none⟩ = some (.int .i64 t)) (h1 : W.cell? ⟨g, 1, none⟩ = some (.int .i64 r)) (h2 : W.cell? ⟨g, 2, none⟩ = some (.int .i64 s)) (h3 : W.cell? ⟨g, 3, none⟩ = some (.int .i64 p)) :
    Calls Try.prog 50 #[.pointer (some ⟨g, 0, none⟩)] W fun e W' => e = .returned (.bool (vBasin t r s p)) ∧ W = W' := by
  go_enter Try.func50, Try.ntmps50
  go_wp2_with (go_at_call 82; refine (s_l00In _ _ _ _).mono ?_; rintro e w' ⟨rfl, rfl⟩)
  all_goals
    go_ret
    exact ⟨by simp [vBasin, *], rfl⟩

theorem s_ValidBasin (t r s p : Int) (W : World) : Calls Try.prog 17 #[.agg #[.int .i64 t, .int .i64 r, .int .i64 s, .int .i64 p]] W fun e W' => e = .returned (.bool (vBasin t r s p)) ∧ Below W.heap.size W W' := by
  go_enter Try.func17, Try.ntmps17
  go_wp2_with (first | (go_at_call 50; refine (s_l16Ok t r s p _ _ (by go_simp) (by go_simp) (by go_simp) (by go_simp)).mono ?_; rintro e w' ⟨rfl, rfl⟩))
  go_ret
  exact ⟨rfl, (by repeat (first | assumption | exact Below.refl _ _ | refine kept_drew ?_ | refine kept_drewN ?_ _ | refine kept_alloc ?_ _ | refine kept_set ?_ ?_ _ | (simp; done) | (simp; omega) | refine kept_trans ?_ (by assumption)))⟩

theorem l_ValidBasin (t r s p : Int) (W : World) : Calls Try.prog 4 #[.agg #[.int .i64 t, .int .i64 r, .int .i64 s, .int .i64 p]] W (Truly W) := by
  go_enter Try.func4, Try.ntmps4
  go_wp2_with (first | (go_at_call 18; refine (l_toBasin _ _ _ _ _).mono ?_; rintro e w1 ⟨rfl, hb⟩; have hk := kept_trans (by first | assumption | exact kept_alloc (by assumption) _ | exact kept_drew (by assumption) | exact Below.refl _ _) hb; obtain ⟨hc, hf⟩ := bcell hk; have hz := hk.size; try simp at hz) | (go_at_call 17; refine (s_ValidBasin _ _ _ _ _).mono ?_; rintro e w1 ⟨rfl, hb⟩; have hk := kept_trans (by first | assumption | exact kept_alloc (by assumption) _ | exact kept_drew (by assumption) | exact Below.refl _ _) hb; obtain ⟨hc, hf⟩ := bcell hk; have hz := hk.size; try simp at hz) | (go_at_call 19; refine (i_ValidBasin _ _ _ _ _).mono ?_; rintro e w1 ⟨rfl, hb⟩; have hk := kept_trans (by first | assumption | exact kept_alloc (by assumption) _ | exact kept_drew (by assumption) | exact Below.refl _ _) hb; obtain ⟨hc, hf⟩ := bcell hk; have hz := hk.size; try simp at hz))
  go_ret
  exact ⟨rfl, (by repeat (first | assumption | exact Below.refl _ _ | refine kept_drew ?_ | refine kept_drewN ?_ _ | refine kept_alloc ?_ _ | refine kept_set ?_ ?_ _ | (simp; done) | (simp; omega) | refine kept_trans ?_ (by assumption)))⟩

theorem i_basined (t r s p : Int) (f : Bool) (W : World) : Calls Try.prog 57 #[.agg #[.int .i64 t, .int .i64 r, .int .i64 s, .int .i64 p], .bool f] W fun e W' => e = .returned (.int .i64 (askCode (vBasin t r s p) f)) ∧ Below W.heap.size W W' := by
  cases hv : vBasin t r s p <;> cases f
  all_goals
    go_enter Try.func57, Try.ntmps57
    go_wp2_with (go_at_call 19; refine (i_ValidBasin _ _ _ _ _).mono ?_; rintro e w1 ⟨rfl, hb⟩; have hk := kept_trans (by first | assumption | exact kept_alloc (by assumption) _ | exact kept_drew (by assumption) | exact Below.refl _ _) hb; obtain ⟨hc, hf⟩ := bcell hk; have hz := hk.size; try simp at hz)
    go_ret
    exact ⟨rfl, (by repeat (first | assumption | exact Below.refl _ _ | refine kept_drew ?_ | refine kept_drewN ?_ _ | refine kept_alloc ?_ _ | refine kept_set ?_ ?_ _ | (simp; done) | (simp; omega) | refine kept_trans ?_ (by assumption)))⟩

def fillS (t r s p water : Int) : Int × Int := if askCode (vBasin t r s p) (inB water 0 20000) = 0 then ((water + r - 1) / r, 0) else (0, askCode (vBasin t r s p) (inB water 0 20000))

theorem i_FillSeconds (t r s p water : Int) (W : World) : Calls Try.prog 25 #[.agg #[.int .i64 t, .int .i64 r, .int .i64 s, .int .i64 p], .int .i64 water] W fun e W' => e = .returned (.tuple #[.int .i64 (fillS t r s p water).1, .int .i64 (fillS t r s p water).2]) ∧ Below W.heap.size W W' := by
  have hb := @vBasin_out t r s p
  have hw := @inB_out water 0 20000
  have k0 : ∀ d os, (Go.Sort.grow (redrawn (W.alloc (.cells #[.int .i64 t, .int .i64 r, .int .i64 s, .int .i64 p] 31)) d) os).cell? ⟨W.heap.size, 0, none⟩ = some (.int .i64 t) := fun d os => boxed 0 _ rfl d os
  have k1 : ∀ d os, (Go.Sort.grow (redrawn (W.alloc (.cells #[.int .i64 t, .int .i64 r, .int .i64 s, .int .i64 p] 31)) d) os).cell? ⟨W.heap.size, 1, none⟩ = some (.int .i64 r) := fun d os => boxed 1 _ rfl d os
  have k2 : ∀ d os, (Go.Sort.grow (redrawn (W.alloc (.cells #[.int .i64 t, .int .i64 r, .int .i64 s, .int .i64 p] 31)) d) os).cell? ⟨W.heap.size, 2, none⟩ = some (.int .i64 s) := fun d os => boxed 2 _ rfl d os
  have k3 : ∀ d os, (Go.Sort.grow (redrawn (W.alloc (.cells #[.int .i64 t, .int .i64 r, .int .i64 s, .int .i64 p] 31)) d) os).cell? ⟨W.heap.size, 3, none⟩ = some (.int .i64 p) := fun d os => boxed 3 _ rfl d os
  cases hv : vBasin t r s p <;> cases hi : inB water 0 20000
  case true.true =>
    have hb := hb hv
    have hw := hw hi
    have HF : Hid (fillS t r s p water = ((water + r - 1) / r, 0)) := by unfold fillS; rw [hv, hi]; rfl
    have e1 : askCode true true = 0 := rfl
    go_enter Try.func25, Try.ntmps25
    go_wp2_with (fail)
    refine wp_region_quiet_below (by kernel_rfl) (by kernel_rfl) ?_
    repeat (quiet_step (first | (go_at_call 58; exact Go.Proofs.Ytelgkgbglomcnaa.Calls.regrown_same (i_isTank _ _)) | (go_at_call 57; exact Calls.regrown_of (i_basined _ _ _ _ _ _))))
    refine wpQuiet_nil ?_
    intro w2 hw2
    have hk := below_of_regrown hw2
    clear hw2 k0 k1 k2 k3
    obtain ⟨hc, hf⟩ := bcell hk
    have hz := hk.size
    try simp at hz
    go_wp2_with (first | (go_at_call 59; refine (i_ceilDiv _ _ _ ?_).mono ?_; (omega); rintro e w' ⟨rfl, rfl⟩))
    go_ret2
    exact ⟨by rw [HF.out]; rfl, (by repeat (first | assumption | exact Below.refl _ _ | refine kept_drew ?_ | refine kept_drewN ?_ _ | refine kept_alloc ?_ _ | refine kept_set ?_ ?_ _ | (simp; done) | (simp; omega) | refine kept_trans ?_ (by assumption)))⟩
  all_goals
    have e0 : askCode false false = 1 := rfl
    have e1 : askCode false true = 1 := rfl
    have e2 : askCode true false = 2 := rfl
    clear hb hw
    go_enter Try.func25, Try.ntmps25
    go_wp2_with (fail)
    refine wp_region_quiet_below (by kernel_rfl) (by kernel_rfl) ?_
    repeat (quiet_step (first | (go_at_call 58; exact Go.Proofs.Ytelgkgbglomcnaa.Calls.regrown_same (i_isTank _ _)) | (go_at_call 57; exact Calls.regrown_of (i_basined _ _ _ _ _ _))))
    refine wpQuiet_nil ?_
    intro w2 hw2
    have hk := below_of_regrown hw2
    clear hw2 k0 k1 k2 k3
    obtain ⟨hc, hf⟩ := bcell hk
    have hz := hk.size
    try simp at hz
    go_wp2_with (fail)
    go_ret2
    exact ⟨by simp [fillS, *], (by repeat (first | assumption | exact Below.refl _ _ | refine kept_drew ?_ | refine kept_drewN ?_ _ | refine kept_alloc ?_ _ | refine kept_set ?_ ?_ _ | (simp; done) | (simp; omega) | refine kept_trans ?_ (by assumption)))⟩

theorem s_FillSeconds (t r s p water : Int) (W : World) : Calls Try.prog 24 #[.agg #[.int .i64 t, .int .i64 r, .int .i64 s, .int .i64 p], .int .i64 water] W fun e W' => e = .returned (.tuple #[.int .i64 (fillS t r s p water).1, .int .i64 (fillS t r s p water).2]) ∧ Below W.heap.size W W' := by
  have hb := @vBasin_out t r s p
  have hw := @inB_out water 0 20000
  cases hv : vBasin t r s p <;> cases hi : inB water 0 20000
  case true.true =>
    have hb := hb hv
    have hw := hw hi
    have HF : Hid (fillS t r s p water = ((water + r - 1) / r, 0)) := by unfold fillS; rw [hv, hi]; rfl
    go_enter Try.func24, Try.ntmps24
    go_wp2_with (first | (go_at_call 56; refine (s_l16Litres _ _).mono ?_; rintro e w' ⟨rfl, rfl⟩) | (go_at_call 50; refine (s_l16Ok t r s p _ _ (by go_simp) (by go_simp) (by go_simp) (by go_simp)).mono ?_; rintro e w' ⟨rfl, rfl⟩))
    go_ret2
    exact ⟨by rw [HF.out]; rfl, (by repeat (first | assumption | exact Below.refl _ _ | refine kept_drew ?_ | refine kept_drewN ?_ _ | refine kept_alloc ?_ _ | refine kept_set ?_ ?_ _ | (simp; done) | (simp; omega) | refine kept_trans ?_ (by assumption)))⟩
  all_goals
    clear hb hw
    go_enter Try.func24, Try.ntmps24
    go_wp2_with (first | (go_at_call 56; refine (s_l16Litres _ _).mono ?_; rintro e w' ⟨rfl, rfl⟩) | (go_at_call 50; refine (s_l16Ok t r s p _ _ (by go_simp) (by go_simp) (by go_simp) (by go_simp)).mono ?_; rintro e w' ⟨rfl, rfl⟩))
    go_ret2
    exact ⟨by simp [fillS, askCode, *], (by repeat (first | assumption | exact Below.refl _ _ | refine kept_drew ?_ | refine kept_drewN ?_ _ | refine kept_alloc ?_ _ | refine kept_set ?_ ?_ _ | (simp; done) | (simp; omega) | refine kept_trans ?_ (by assumption)))⟩

theorem l_FillSeconds (t r s p water : Int) (W : World) : Calls Try.prog 6 #[.agg #[.int .i64 t, .int .i64 r, .int .i64 s, .int .i64 p], .int .i64 water] W (Truly W) := by
  go_enter Try.func6, Try.ntmps6
  go_wp2_with (first | (go_at_call 18; refine (l_toBasin _ _ _ _ _).mono ?_; rintro e w1 ⟨rfl, hb⟩; have hk := kept_trans (by first | assumption | exact kept_alloc (by assumption) _ | exact kept_drew (by assumption) | exact Below.refl _ _) hb; obtain ⟨hc, hf⟩ := bcell hk; have hz := hk.size; try simp at hz) | (go_at_call 24; refine (s_FillSeconds _ _ _ _ _ _).mono ?_; rintro e w1 ⟨rfl, hb⟩; have hk := kept_trans (by first | assumption | exact kept_alloc (by assumption) _ | exact kept_drew (by assumption) | exact Below.refl _ _) hb; obtain ⟨hc, hf⟩ := bcell hk; have hz := hk.size; try simp at hz) | (go_at_call 25; refine (i_FillSeconds _ _ _ _ _ _).mono ?_; rintro e w1 ⟨rfl, hb⟩; have hk := kept_trans (by first | assumption | exact kept_alloc (by assumption) _ | exact kept_drew (by assumption) | exact Below.refl _ _) hb; obtain ⟨hc, hf⟩ := bcell hk; have hz := hk.size; try simp at hz))
  go_ret
  exact ⟨rfl, (by repeat (first | assumption | exact Below.refl _ _ | refine kept_drew ?_ | refine kept_drewN ?_ _ | refine kept_alloc ?_ _ | refine kept_set ?_ ?_ _ | (simp; done) | (simp; omega) | refine kept_trans ?_ (by assumption)))⟩

/-! ### The pull -/
def vThree (b r g : Int) : Bool := inB b 0 100000 && inB r 0 100000 && inB g 1 900
def pullI (t b r g : Int) : Int := rnd ((t - b - r) * g * 981) 100000
def pull (t b r g : Int) : Int × Int := if inB t 0 100000 && vThree b r g then (pullI t b r g, 0) else (0, 2)
theorem pull_bd {x g : Int} (h : -300000 ≤ x ∧ x ≤ 300000 ∧ 1 ≤ g ∧ g ≤ 900) : -270000000 ≤ x * g ∧ x * g ≤ 270000000 := by
  obtain ⟨h1, h2, h3, h4⟩ := h
  by_cases h0 : 0 ≤ x
  · have := Int.mul_le_mul h2 h4 (by omega) (by omega : (0 : Int) ≤ 300000)
    have := Int.mul_nonneg h0 (show 0 ≤ g by omega)
    omega
  · have := Int.mul_le_mul (show -x ≤ 300000 by omega) h4 (by omega) (by omega : (0 : Int) ≤ 300000)
    have := Int.mul_nonneg (show 0 ≤ -x by omega) (show 0 ≤ g by omega)
    rw [Int.neg_mul] at *
    omega

theorem i_pullDown (t b r g : Int) (W : World) (h : -300000 ≤ t - b - r ∧ t - b - r ≤ 300000 ∧ 1 ≤ g ∧ g ≤ 900 ∧ 0 ≤ t ∧ t ≤ 200000 ∧ 0 ≤ b ∧ b ≤ 100000 ∧ 0 ≤ r ∧ r ≤ 100000) :
    Calls Try.prog 71 #[.int .i64 t, .int .i64 b, .int .i64 r, .int .i64 g] W fun e W' => e = .returned (.int .i64 (pullI t b r g)) ∧ Below W.heap.size W W' := by
  have hp := pull_bd (x := t - b - r) (g := g) (by omega)
  go_enter Try.func71, Try.ntmps71
  go_wp2_with (first | (go_at_call 86; refine (i_nearest _ _ _ ?_).mono ?_; (omega); rintro e w' ⟨rfl, m, rfl⟩))
  go_ret
  exact ⟨rfl, (by repeat (first | assumption | exact Below.refl _ _ | refine kept_drew ?_ | refine kept_drewN ?_ _ | refine kept_alloc ?_ _ | refine kept_set ?_ ?_ _ | (simp; done) | (simp; omega) | refine kept_trans ?_ (by assumption)))⟩

theorem s_l16Pull (t b r g : Int) (W : World) (h : -300000 ≤ t - b - r ∧ t - b - r ≤ 300000 ∧ 1 ≤ g ∧ g ≤ 900 ∧ 0 ≤ t ∧ t ≤ 200000 ∧ 0 ≤ b ∧ b ≤ 100000 ∧ 0 ≤ r ∧ r ≤ 100000) :
    Calls Try.prog 69 #[.int .i64 t, .int .i64 b, .int .i64 r, .int .i64 g] W fun e W' => e = .returned (.int .i64 (pullI t b r g)) ∧ W = W' := by
  have hp := pull_bd (x := t - b - r) (g := g) (by omega)
  go_enter Try.func69, Try.ntmps69
  go_wp2_with (first | (go_at_call 84; refine (s_l01Div _ _ _ ?_).mono ?_; (omega); rintro e w' ⟨rfl, rfl⟩))
  go_ret
  exact ⟨rfl, rfl⟩

theorem s_l16Three (b r g : Int) (W : World) : Calls Try.prog 68 #[.int .i64 b, .int .i64 r, .int .i64 g] W fun e W' => e = .returned (.bool (vThree b r g)) ∧ W = W' := by
  go_enter Try.func68, Try.ntmps68
  go_wp2_with (first | (go_at_call 67; refine (s_l04Kilos _ _).mono ?_; rintro e w' ⟨rfl, rfl⟩) | (go_at_call 82; refine (s_l00In _ _ _ _).mono ?_; rintro e w' ⟨rfl, rfl⟩))
  all_goals
    go_ret
    exact ⟨by simp [vThree, *], rfl⟩

theorem i_areLoads1 (x : Int) (W : World) : Calls Try.prog 90 #[.int .i64 x] W fun e W' => e = .returned (.bool (!inB x 0 100000)) ∧ Below W.heap.size W W' := by
  go_enter Try.func90, Try.ntmps90
  go_wp2_with (first | (go_at_call 91; refine (i_isLoad _ _).mono ?_; rintro e w' ⟨rfl, rfl⟩))
  go_ret
  exact ⟨rfl, (by repeat (first | assumption | exact Below.refl _ _ | refine kept_drew ?_ | refine kept_drewN ?_ _ | refine kept_alloc ?_ _ | refine kept_set ?_ ?_ _ | (simp; done) | (simp; omega) | refine kept_trans ?_ (by assumption)))⟩

theorem i_areLoads (rope grade : Int) (v : Value) (n : Nat) (z : Nat → Int) (W : World) (hs : Sl W v 1 n (ic z)) : Calls Try.prog 70 #[.int .i64 rope, .int .i64 grade, v] W fun e W' => e = .returned (.bool (allTo (fun i => inB (z i) 0 100000) n && inB rope 0 100000 && inB grade 1 900)) ∧ Below W.heap.size W W' := by
  have hp : Answers W 90 #[] n (ic z) (fun i => !inB (z i) 0 100000) := ⟨enters Try.func90 (by kernel_rfl) rfl, fun i _ w _ => i_areLoads1 (z i) w⟩
  have hc := containsFunc_ints 90 #[] _ v n z W hs hp
  clear hp hs
  simp only [Bool.not_not] at hc
  have hc := Lib.hid hc
  generalize allTo (fun i => inB (z i) 0 100000) n = q at hc
  cases q
  all_goals
    go_enter Try.func70, Try.ntmps70
    go_wp2_with (first | (go_at_call 53; refine hc.out.mono ?_; rintro e w1 ⟨rfl, hb1⟩) | (go_at_call 91; refine (i_isLoad _ _).mono ?_; rintro e w' ⟨rfl, rfl⟩) | (go_at_call 48; refine (i_within _ _ _ _).mono ?_; rintro e w' ⟨rfl, rfl⟩))
    all_goals
      go_ret
      exact ⟨by simp [*], (by repeat (first | assumption | exact Below.refl _ _ | refine kept_drew ?_ | refine kept_drewN ?_ _ | refine kept_alloc ?_ _ | refine kept_set ?_ ?_ _ | (simp; done) | (simp; omega) | refine kept_trans ?_ (by assumption)))⟩

def pairZ (a b : Int) : Nat → Int := fun i => if i = 0 then a else b
theorem Sl.pair {W : World} {a b : Int} {t : TypeId} : Sl (W.alloc (.cells #[.int .i64 a, .int .i64 b] t)) (.slice (some ⟨W.heap.size, 0, none⟩) 2 2) 1 2 (ic (pairZ a b)) :=
  Sl.of_row (by omega) (Row.of_rowIs (World.rowIs_alloc W #[.int .i64 a, .int .i64 b] t (ic (pairZ a b)) (fun i hi => by
    have hi' : i < 2 := by simpa using hi
    match i, hi' with
    | 0, _ => rfl
    | 1, _ => rfl)))

theorem i_PullDown (t b r g : Int) (W : World) : Calls Try.prog 31 #[.int .i64 t, .int .i64 b, .int .i64 r, .int .i64 g] W fun e W' => e = .returned (.tuple #[.int .i64 (pull t b r g).1, .int .i64 (pull t b r g).2]) ∧ Below W.heap.size W W' := by
  have hA := (i_areLoads r g _ 2 (pairZ t b) (W.alloc (.cells #[.int .i64 t, .int .i64 b] 2)) Sl.pair)
  have ea : (allTo (fun i => inB (pairZ t b i) 0 100000) 2 && inB r 0 100000 && inB g 1 900) = (inB t 0 100000 && vThree b r g) := by
    show ((true && inB t 0 100000) && inB b 0 100000 && inB r 0 100000 && inB g 1 900) = _
    unfold vThree
    simp [Bool.and_assoc]
  rw [ea] at hA
  have hA := Lib.hid hA
  clear ea
  cases hv : (inB t 0 100000 && vThree b r g)
  · have HF : Hid (pull t b r g = (0, 2)) := by unfold pull; rw [hv]; rfl
    rw [hv] at hA
    clear hv
    go_enter Try.func31, Try.ntmps31
    go_wp2_with (first | (go_at_call 70; refine hA.out.mono ?_; rintro e w1 ⟨rfl, hb1⟩))
    go_ret2
    exact ⟨by rw [HF.out]; rfl, (by repeat (first | assumption | exact Below.refl _ _ | refine kept_drew ?_ | refine kept_drewN ?_ _ | refine kept_alloc ?_ _ | refine kept_set ?_ ?_ _ | (simp; done) | (simp; omega) | refine kept_trans ?_ (by assumption)))⟩
  · have HF : Hid (pull t b r g = (pullI t b r g, 0)) := by unfold pull; rw [hv]; rfl
    rw [hv] at hA
    simp only [vThree, Bool.and_eq_true, inB_iff] at hv
    obtain ⟨⟨t0, t1⟩, ⟨⟨b0, b1⟩, r0, r1⟩, g0, g1⟩ := hv
    go_enter Try.func31, Try.ntmps31
    go_wp2_with (first | (go_at_call 70; refine hA.out.mono ?_; rintro e w1 ⟨rfl, hb1⟩) | (go_at_call 71; refine (i_pullDown _ _ _ _ _ ?_).mono ?_; (omega); rintro e w2 ⟨rfl, hb2⟩))
    go_ret2
    exact ⟨by rw [HF.out]; rfl, (by repeat (first | assumption | exact Below.refl _ _ | refine kept_drew ?_ | refine kept_drewN ?_ _ | refine kept_alloc ?_ _ | refine kept_set ?_ ?_ _ | (simp; done) | (simp; omega) | refine kept_trans ?_ (by assumption)))⟩

theorem s_PullDown (t b r g : Int) (W : World) : Calls Try.prog 30 #[.int .i64 t, .int .i64 b, .int .i64 r, .int .i64 g] W fun e W' => e = .returned (.tuple #[.int .i64 (pull t b r g).1, .int .i64 (pull t b r g).2]) ∧ Below W.heap.size W W' := by
  cases h1 : inB t 0 100000
  · have HF : Hid (pull t b r g = (0, 2)) := by unfold pull; rw [h1]; rfl
    go_enter Try.func30, Try.ntmps30
    go_wp2_with (first | (go_at_call 67; refine (s_l04Kilos _ _).mono ?_; rintro e w' ⟨rfl, rfl⟩) | (go_at_call 68; refine (s_l16Three _ _ _ _).mono ?_; rintro e w' ⟨rfl, rfl⟩))
    go_ret2
    exact ⟨by rw [HF.out]; rfl, (by repeat (first | assumption | exact Below.refl _ _ | refine kept_drew ?_ | refine kept_drewN ?_ _ | refine kept_alloc ?_ _ | refine kept_set ?_ ?_ _ | (simp; done) | (simp; omega) | refine kept_trans ?_ (by assumption)))⟩
  · cases h2 : vThree b r g
    · have HF : Hid (pull t b r g = (0, 2)) := by unfold pull; rw [h1, h2]; rfl
      go_enter Try.func30, Try.ntmps30
      go_wp2_with (first | (go_at_call 67; refine (s_l04Kilos _ _).mono ?_; rintro e w' ⟨rfl, rfl⟩) | (go_at_call 68; refine (s_l16Three _ _ _ _).mono ?_; rintro e w' ⟨rfl, rfl⟩))
      go_ret2
      exact ⟨by rw [HF.out]; rfl, (by repeat (first | assumption | exact Below.refl _ _ | refine kept_drew ?_ | refine kept_drewN ?_ _ | refine kept_alloc ?_ _ | refine kept_set ?_ ?_ _ | (simp; done) | (simp; omega) | refine kept_trans ?_ (by assumption)))⟩
    · have HF : Hid (pull t b r g = (pullI t b r g, 0)) := by unfold pull; rw [h1, h2]; rfl
      have h1' := inB_out h1
      have h2' := h2
      simp only [vThree, Bool.and_eq_true, inB_iff] at h2'
      go_enter Try.func30, Try.ntmps30
      go_wp2_with (first | (go_at_call 67; refine (s_l04Kilos _ _).mono ?_; rintro e w' ⟨rfl, rfl⟩) | (go_at_call 68; refine (s_l16Three _ _ _ _).mono ?_; rintro e w' ⟨rfl, rfl⟩) | (go_at_call 69; refine (s_l16Pull _ _ _ _ _ ?_).mono ?_; (omega); rintro e w' ⟨rfl, rfl⟩))
      go_ret2
      exact ⟨by rw [HF.out]; rfl, (by repeat (first | assumption | exact Below.refl _ _ | refine kept_drew ?_ | refine kept_drewN ?_ _ | refine kept_alloc ?_ _ | refine kept_set ?_ ?_ _ | (simp; done) | (simp; omega) | refine kept_trans ?_ (by assumption)))⟩

theorem l_PullDown (t b r g : Int) (W : World) : Calls Try.prog 9 #[.int .i64 t, .int .i64 b, .int .i64 r, .int .i64 g] W (Truly W) := by
  go_enter Try.func9, Try.ntmps9
  go_wp2_with (first | (go_at_call 30; refine (s_PullDown _ _ _ _ _).mono ?_; rintro e w1 ⟨rfl, hb⟩; have hk := kept_trans (by first | assumption | exact kept_alloc (by assumption) _ | exact kept_drew (by assumption) | exact Below.refl _ _) hb; obtain ⟨hc, hf⟩ := bcell hk; have hz := hk.size; try simp at hz) | (go_at_call 31; refine (i_PullDown _ _ _ _ _).mono ?_; rintro e w1 ⟨rfl, hb⟩; have hk := kept_trans (by first | assumption | exact kept_alloc (by assumption) _ | exact kept_drew (by assumption) | exact Below.refl _ _) hb; obtain ⟨hc, hf⟩ := bcell hk; have hz := hk.size; try simp at hz))
  go_ret
  exact ⟨rfl, (by repeat (first | assumption | exact Below.refl _ _ | refine kept_drew ?_ | refine kept_drewN ?_ _ | refine kept_alloc ?_ _ | refine kept_set ?_ ?_ _ | (simp; done) | (simp; omega) | refine kept_trans ?_ (by assumption)))⟩

/-! ### Trips till the store is dry -/
def stAt (water add s0 : Int) : Nat → Int
  | 0 => s0
  | k + 1 => min 10000000 (stAt water add s0 k - water + add)
def dry (water add s0 : Int) : Nat := firstTo (fun i => decide (stAt water add s0 i < water)) 1000
theorem stAt_bd {water add s0 : Int} (h0 : 0 ≤ s0) (h1 : s0 ≤ 10000000) (ha : 0 ≤ add) : ∀ k, (∀ i, i < k → water ≤ stAt water add s0 i) → 0 ≤ stAt water add s0 k ∧ stAt water add s0 k ≤ 10000000
  | 0, _ => ⟨h0, h1⟩
  | k + 1, h => by
    have := h k (by omega)
    simp only [stAt]
    omega

def tripsDry (t r s p water gap : Int) : Int × Int :=
  if askCode (vBasin t r s p) (inB water 0 20000 && inB gap 0 1440) = 0 then ((dry water (p * gap) s : Int), 0) else (0, askCode (vBasin t r s p) (inB water 0 20000 && inB gap 0 1440))
theorem tripsDry_no {t r s p water gap : Int} (h : askCode (vBasin t r s p) (inB water 0 20000 && inB gap 0 1440) ≠ 0) : tripsDry t r s p water gap = (0, askCode (vBasin t r s p) (inB water 0 20000 && inB gap 0 1440)) := by
  unfold tripsDry; rw [if_neg h]

set_option maxRecDepth 100000 in
theorem i_TripsUntilDry (t r s p water gap : Int) (W : World) : Calls Try.prog 29 #[.agg #[.int .i64 t, .int .i64 r, .int .i64 s, .int .i64 p], .int .i64 water, .int .i64 gap] W fun e W' => e = .returned (.tuple #[.int .i64 (tripsDry t r s p water gap).1, .int .i64 (tripsDry t r s p water gap).2]) ∧ Below W.heap.size W W' := by
  have hb := @vBasin_out t r s p
  have hw := @inB_out water 0 20000
  have hg := @inB_out gap 0 1440
  have k0 : ∀ d os, (Go.Sort.grow (redrawn (W.alloc (.cells #[.int .i64 t, .int .i64 r, .int .i64 s, .int .i64 p] 31)) d) os).cell? ⟨W.heap.size, 0, none⟩ = some (.int .i64 t) := fun d os => boxed 0 _ rfl d os
  have k1 : ∀ d os, (Go.Sort.grow (redrawn (W.alloc (.cells #[.int .i64 t, .int .i64 r, .int .i64 s, .int .i64 p] 31)) d) os).cell? ⟨W.heap.size, 1, none⟩ = some (.int .i64 r) := fun d os => boxed 1 _ rfl d os
  have k2 : ∀ d os, (Go.Sort.grow (redrawn (W.alloc (.cells #[.int .i64 t, .int .i64 r, .int .i64 s, .int .i64 p] 31)) d) os).cell? ⟨W.heap.size, 2, none⟩ = some (.int .i64 s) := fun d os => boxed 2 _ rfl d os
  have k3 : ∀ d os, (Go.Sort.grow (redrawn (W.alloc (.cells #[.int .i64 t, .int .i64 r, .int .i64 s, .int .i64 p] 31)) d) os).cell? ⟨W.heap.size, 3, none⟩ = some (.int .i64 p) := fun d os => boxed 3 _ rfl d os
  cases hv : vBasin t r s p <;> cases hi : inB water 0 20000 <;> cases hj : inB gap 0 1440
  case true.true.true =>
    have HF : Hid (tripsDry t r s p water gap = ((dry water (p * gap) s : Int), 0)) := by unfold tripsDry; rw [hv, hi, hj]; rfl
    have hb := hb hv
    have hw := hw hi
    have hg := hg hj
    have e1 : askCode true true = 0 := rfl
    have hm := mul_bd (show 0 ≤ p by omega) (show p ≤ 1000 by omega) hg.1 hg.2
    go_enter Try.func29, Try.ntmps29
    go_wp2_with (fail)
    refine wp_region_quiet_below (by kernel_rfl) (by kernel_rfl) ?_
    repeat (quiet_step (first | (go_at_call 58; exact Go.Proofs.Ytelgkgbglomcnaa.Calls.regrown_same (i_isTank _ _)) | (go_at_call 66; exact Go.Proofs.Ytelgkgbglomcnaa.Calls.regrown_same (i_isDayMinute _ _)) | (go_at_call 57; exact Calls.regrown_of (i_basined _ _ _ _ _ _))))
    refine wpQuiet_nil ?_
    intro w2 hw2
    have hk := below_of_regrown hw2
    clear hw2 k0 k1 k2 k3
    obtain ⟨hc, hf⟩ := bcell hk
    have hz := hk.size
    try simp at hz
    go_wp2_with (fail)
    go_loop [9, 10] (fun a b => ∃ k : Nat, (k : Int) ≤ 1000 ∧ a = .int .i64 k ∧ b = .int .i64 (stAt water (p * gap) s k) ∧ Hid (∀ i, i < k → water ≤ stAt water (p * gap) s i)) (fun a _ => (1000 - intOf a).toNat)
    case atStart => exact ⟨0, by omega, rfl, rfl, fun i hi => by omega⟩
    case round =>
      obtain ⟨k, hk, rfl, rfl, hno⟩ := hrel
      have hbd := stAt_bd (water := water) (show 0 ≤ s by omega) (show s ≤ 10000000 by omega) hm.1 k hno.out
      have HS : Hid (stAt water (p * gap) s (k + 1) = min 10000000 (stAt water (p * gap) s k - water + p * gap)) := rfl
      by_cases hlt : (k : Int) < 1000
      · by_cases hge : water ≤ stAt water (p * gap) s k
        · have HN : Hid (∀ i, i < k + 1 → water ≤ stAt water (p * gap) s i) := fun i hi => by
            by_cases e : i = k
            · rw [e]; exact hge
            · exact hno.out i (by omega)
          generalize hx : stAt water (p * gap) s k = x at *
          have HX := Lib.hid hx
          clear hx
          go_wp2_with (fail)
          all_goals
            go_round
            case rel => exact ⟨k + 1, by omega, by go_num, by rw [HS.out]; congr 1; omega, HN⟩
            case measure => simp [intOf]; omega
        · have HY : Hid (dry water (p * gap) s = k) := firstTo_eq (by omega) (fun i hi => by have := hno.out i hi; simp; omega) (fun _ => by simp; omega)
          go_wp2_with (fail)
          go_ret2
          exact ⟨by rw [HF.out, HY.out]; rfl, (by repeat (first | assumption | exact Below.refl _ _ | refine kept_drew ?_ | refine kept_drewN ?_ _ | refine kept_alloc ?_ _ | refine kept_set ?_ ?_ _ | (simp; done) | (simp; omega) | refine kept_trans ?_ (by assumption)))⟩
      · have HY : Hid (dry water (p * gap) s = k) := firstTo_eq (by omega) (fun i hi => by have := hno.out i hi; simp; omega) (fun _ => by omega)
        go_wp2_with (fail)
        go_ret2
        exact ⟨by rw [HF.out, HY.out]; rfl, (by repeat (first | assumption | exact Below.refl _ _ | refine kept_drew ?_ | refine kept_drewN ?_ _ | refine kept_alloc ?_ _ | refine kept_set ?_ ?_ _ | (simp; done) | (simp; omega) | refine kept_trans ?_ (by assumption)))⟩
  all_goals
    have HF := Lib.hid (tripsDry_no (t := t) (r := r) (s := s) (p := p) (water := water) (gap := gap) (by rw [hv, hi, hj]; decide))
    rw [hv, hi, hj] at HF
    have e0 : askCode false false = 1 := rfl
    have e1 : askCode false true = 1 := rfl
    have e2 : askCode true false = 2 := rfl
    clear hb hw hg
    go_enter Try.func29, Try.ntmps29
    go_wp2_with (fail)
    refine wp_region_quiet_below (by kernel_rfl) (by kernel_rfl) ?_
    repeat (quiet_step (first | (go_at_call 58; exact Go.Proofs.Ytelgkgbglomcnaa.Calls.regrown_same (i_isTank _ _)) | (go_at_call 66; exact Go.Proofs.Ytelgkgbglomcnaa.Calls.regrown_same (i_isDayMinute _ _)) | (go_at_call 57; exact Calls.regrown_of (i_basined _ _ _ _ _ _))))
    refine wpQuiet_nil ?_
    intro w2 hw2
    have hk := below_of_regrown hw2
    clear hw2 k0 k1 k2 k3
    obtain ⟨hc, hf⟩ := bcell hk
    have hz := hk.size
    try simp at hz
    go_wp2_with (fail)
    go_ret2
    exact ⟨by rw [HF.out]; rfl, (by repeat (first | assumption | exact Below.refl _ _ | refine kept_drew ?_ | refine kept_drewN ?_ _ | refine kept_alloc ?_ _ | refine kept_set ?_ ?_ _ | (simp; done) | (simp; omega) | refine kept_trans ?_ (by assumption)))⟩

set_option maxRecDepth 100000 in
theorem s_TripsUntilDry (t r s p water gap : Int) (W : World) : Calls Try.prog 28 #[.agg #[.int .i64 t, .int .i64 r, .int .i64 s, .int .i64 p], .int .i64 water, .int .i64 gap] W fun e W' => e = .returned (.tuple #[.int .i64 (tripsDry t r s p water gap).1, .int .i64 (tripsDry t r s p water gap).2]) ∧ Below W.heap.size W W' := by
  have hb := @vBasin_out t r s p
  have hw := @inB_out water 0 20000
  have hg := @inB_out gap 0 1440
  cases hv : vBasin t r s p <;> cases hi : inB water 0 20000 <;> cases hj : inB gap 0 1440
  case true.true.true =>
    have HF : Hid (tripsDry t r s p water gap = ((dry water (p * gap) s : Int), 0)) := by unfold tripsDry; rw [hv, hi, hj]; rfl
    have hb := hb hv
    have hw := hw hi
    have hg := hg hj
    have hm := mul_bd (show 0 ≤ p by omega) (show p ≤ 1000 by omega) hg.1 hg.2
    go_enter Try.func28, Try.ntmps28
    go_wp2_with (first | (go_at_call 56; refine (s_l16Litres _ _).mono ?_; rintro e w' ⟨rfl, rfl⟩) | (go_at_call 65; refine (s_l16Gap _ _).mono ?_; rintro e w' ⟨rfl, rfl⟩) | (go_at_call 50; refine (s_l16Ok t r s p _ _ (by go_simp) (by go_simp) (by go_simp) (by go_simp)).mono ?_; rintro e w' ⟨rfl, rfl⟩))
    go_loop [8, 9] (fun a b => ∃ k : Nat, (k : Int) ≤ 1000 ∧ a = .int .i64 k ∧ b = .int .i64 (stAt water (p * gap) s k) ∧ Hid (∀ i, i < k → water ≤ stAt water (p * gap) s i)) (fun a _ => (1000 - intOf a).toNat)
    case atStart => exact ⟨0, by omega, rfl, rfl, fun i hi => by omega⟩
    case round =>
      obtain ⟨k, hk, rfl, rfl, hno⟩ := hrel
      have hbd := stAt_bd (water := water) (show 0 ≤ s by omega) (show s ≤ 10000000 by omega) hm.1 k hno.out
      have HS : Hid (stAt water (p * gap) s (k + 1) = min 10000000 (stAt water (p * gap) s k - water + p * gap)) := rfl
      by_cases hlt : (k : Int) < 1000
      · by_cases hge : water ≤ stAt water (p * gap) s k
        · have HN : Hid (∀ i, i < k + 1 → water ≤ stAt water (p * gap) s i) := fun i hi => by
            by_cases e : i = k
            · rw [e]; exact hge
            · exact hno.out i (by omega)
          generalize hx : stAt water (p * gap) s k = x at *
          have HX := Lib.hid hx
          clear hx
          go_wp2_with (first | (go_at_call 62; refine (s_l00Min _ _ _).mono ?_; rintro e w' ⟨rfl, rfl⟩))
          all_goals
            go_round
            case rel => exact ⟨k + 1, by omega, by go_num, by rw [HS.out], HN⟩
            case measure => simp [intOf]; omega
        · have HY : Hid (dry water (p * gap) s = k) := firstTo_eq (by omega) (fun i hi => by have := hno.out i hi; simp; omega) (fun _ => by simp; omega)
          go_wp2_with (fail)
          go_ret2
          exact ⟨by rw [HF.out, HY.out]; rfl, (by repeat (first | assumption | exact Below.refl _ _ | refine kept_drew ?_ | refine kept_drewN ?_ _ | refine kept_alloc ?_ _ | refine kept_set ?_ ?_ _ | (simp; done) | (simp; omega) | refine kept_trans ?_ (by assumption)))⟩
      · have HY : Hid (dry water (p * gap) s = k) := firstTo_eq (by omega) (fun i hi => by have := hno.out i hi; simp; omega) (fun _ => by omega)
        go_wp2_with (fail)
        go_ret2
        exact ⟨by rw [HF.out, HY.out]; rfl, (by repeat (first | assumption | exact Below.refl _ _ | refine kept_drew ?_ | refine kept_drewN ?_ _ | refine kept_alloc ?_ _ | refine kept_set ?_ ?_ _ | (simp; done) | (simp; omega) | refine kept_trans ?_ (by assumption)))⟩
  all_goals
    have HF := Lib.hid (tripsDry_no (t := t) (r := r) (s := s) (p := p) (water := water) (gap := gap) (by rw [hv, hi, hj]; decide))
    rw [hv, hi, hj] at HF
    clear hb hw hg
    go_enter Try.func28, Try.ntmps28
    go_wp2_with (first | (go_at_call 56; refine (s_l16Litres _ _).mono ?_; rintro e w' ⟨rfl, rfl⟩) | (go_at_call 65; refine (s_l16Gap _ _).mono ?_; rintro e w' ⟨rfl, rfl⟩) | (go_at_call 50; refine (s_l16Ok t r s p _ _ (by go_simp) (by go_simp) (by go_simp) (by go_simp)).mono ?_; rintro e w' ⟨rfl, rfl⟩))
    go_ret2
    exact ⟨by rw [HF.out]; rfl, (by repeat (first | assumption | exact Below.refl _ _ | refine kept_drew ?_ | refine kept_drewN ?_ _ | refine kept_alloc ?_ _ | refine kept_set ?_ ?_ _ | (simp; done) | (simp; omega) | refine kept_trans ?_ (by assumption)))⟩

theorem l_TripsUntilDry (t r s p water gap : Int) (W : World) : Calls Try.prog 8 #[.agg #[.int .i64 t, .int .i64 r, .int .i64 s, .int .i64 p], .int .i64 water, .int .i64 gap] W (Truly W) := by
  go_enter Try.func8, Try.ntmps8
  go_wp2_with (first | (go_at_call 18; refine (l_toBasin _ _ _ _ _).mono ?_; rintro e w1 ⟨rfl, hb⟩; have hk := kept_trans (by first | assumption | exact kept_alloc (by assumption) _ | exact kept_drew (by assumption) | exact Below.refl _ _) hb; obtain ⟨hc, hf⟩ := bcell hk; have hz := hk.size; try simp at hz) | (go_at_call 28; refine (s_TripsUntilDry _ _ _ _ _ _ _).mono ?_; rintro e w1 ⟨rfl, hb⟩; have hk := kept_trans (by first | assumption | exact kept_alloc (by assumption) _ | exact kept_drew (by assumption) | exact Below.refl _ _) hb; obtain ⟨hc, hf⟩ := bcell hk; have hz := hk.size; try simp at hz) | (go_at_call 29; refine (i_TripsUntilDry _ _ _ _ _ _ _).mono ?_; rintro e w1 ⟨rfl, hb⟩; have hk := kept_trans (by first | assumption | exact kept_alloc (by assumption) _ | exact kept_drew (by assumption) | exact Below.refl _ _) hb; obtain ⟨hc, hf⟩ := bcell hk; have hz := hk.size; try simp at hz))
  go_ret
  exact ⟨rfl, (by repeat (first | assumption | exact Below.refl _ _ | refine kept_drew ?_ | refine kept_drewN ?_ _ | refine kept_alloc ?_ _ | refine kept_set ?_ ?_ _ | (simp; done) | (simp; omega) | refine kept_trans ?_ (by assumption)))⟩

end Go.Proofs.Ytelgkgbglomcnaa
