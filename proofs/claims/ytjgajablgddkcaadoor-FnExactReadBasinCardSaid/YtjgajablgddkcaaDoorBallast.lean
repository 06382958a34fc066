/- Contracts on basins: the reference's functions and the program's compute the same plain functions. -/
import Derived.Test.YtjgajablgddkcaaDoorFuncs
namespace Go.Proofs.YtjgajablgddkcaaDoor
open Go.RowKit Go.Deep

def vBasin (t r s p : Int) : Bool := inB t 1 20000 && inB r 1 1000 && inB s 0 10000000 && inB p 0 1000
theorem vBasin_out {t r s p : Int} (h : vBasin t r s p = true) : 1 ≤ t ∧ t ≤ 20000 ∧ 1 ≤ r ∧ r ≤ 1000 ∧ 0 ≤ s ∧ s ≤ 10000000 ∧ 0 ≤ p ∧ p ≤ 1000 := by
  simp only [vBasin, Bool.and_eq_true, inB_iff] at h; omega

theorem i_ValidBasin (t r s p : Int) (W : World) : Calls Tryd.prog 27 #[.agg #[.int .i64 t, .int .i64 r, .int .i64 s, .int .i64 p]] W fun e W' => e = .returned (.bool (vBasin t r s p)) ∧ Below W.heap.size W W' := by
  go_enter Tryd.func27, Tryd.ntmps27
  go_wp2_with (first | (go_at_call 43; refine (i_within _ _ _ _).mono ?_; rintro e w' ⟨rfl, rfl⟩) | (go_at_call 46; refine (i_isStore _ _).mono ?_; rintro e w' ⟨rfl, rfl⟩))
  all_goals
    go_ret
    exact ⟨by simp [vBasin, *], (by repeat (first | assumption | exact Below.refl _ _ | refine kept_drew ?_ | refine kept_drewN ?_ _ | refine kept_alloc ?_ _ | refine kept_set ?_ ?_ _ | (simp; done) | (simp; omega) | refine kept_trans ?_ (by assumption)))⟩

theorem s_l16Ok (t r s p : Int) (W : World) (g : Nat) (h0 : W.cell? ⟨g, 0, none⟩ = some (.int .i64 t)) (h1 : W.cell? ⟨g, 1, none⟩ = some (.int .i64 r)) (h2 : W.cell? ⟨g, 2, none⟩ = some (.int .i64 s)) (h3 : W.cell? ⟨g, 3, none⟩ = some (.int .i64 p)) :
    Calls Tryd.prog 44 #[.pointer (some ⟨g, 0, none⟩)] W fun e W' => e = .returned (.bool (vBasin t r s p)) ∧ W = W' := by
  go_enter Tryd.func44, Tryd.ntmps44
  go_wp2_with (go_at_call 37; refine (s_l00In _ _ _ _).mono ?_; rintro e w' ⟨rfl, rfl⟩)
  all_goals
    go_ret
    exact ⟨by simp [vBasin, *], rfl⟩

def fillS (t r s p water : Int) : Int × Int := if askCode (vBasin t r s p) (inB water 0 20000) = 0 then ((water + r - 1) / r, 0) else (0, askCode (vBasin t r s p) (inB water 0 20000))

/-! ### The pull -/
def vThree (b r g : Int) : Bool := inB b 0 100000 && inB r 0 100000 && inB g 1 900
def pullI (t b r g : Int) : Int := rnd ((t - b - r) * g * 981) 100000
def pull (t b r g : Int) : Int × Int := if inB t 0 100000 && vThree b r g then (pullI t b r g, 0) else (0, 2)
theorem pull_bd {x g : Int} (h : -300000 ≤ x ∧ x ≤ 300000 ∧ 1 ≤ g ∧ g ≤ 900) : -270000000 ≤ x * g ∧ x * g ≤ 270000000 := by
  obtain ⟨h1, h2, h3, h4⟩ := h
  by_cases h0 : 0 ≤ x
  · have := Int.mul_le_mul h2 h4 (by omega) (by omega : (0 : Int) ≤ 300000)
    have := Int.mul_nonneg h0 (show 0 ≤ g by omega)
    omega
  · have := Int.mul_le_mul (show -x ≤ 300000 by omega) h4 (by omega) (by omega : (0 : Int) ≤ 300000)
    have := Int.mul_nonneg (show 0 ≤ -x by omega) (show 0 ≤ g by omega)
    rw [Int.neg_mul] at *
    omega

def pairZ (a b : Int) : Nat → Int := fun i => if i = 0 then a else b
theorem Sl.pair {W : World} {a b : Int} {t : TypeId} : Sl (W.alloc (.cells #[.int .i64 a, .int .i64 b] t)) (.slice (some ⟨W.heap.size, 0, none⟩) 2 2) 1 2 (ic (pairZ a b)) :=
  Sl.of_row (by omega) (Row.of_rowIs (World.rowIs_alloc W #[.int .i64 a, .int .i64 b] t (ic (pairZ a b)) (fun i hi => by
    have hi' : i < 2 := by simpa using hi
    match i, hi' with
    | 0, _ => rfl
    | 1, _ => rfl)))

/-! ### Trips till the store is dry -/
def stAt (water add s0 : Int) : Nat → Int
  | 0 => s0
  | k + 1 => min 10000000 (stAt water add s0 k - water + add)
def dry (water add s0 : Int) : Nat := firstTo (fun i => decide (stAt water add s0 i < water)) 1000
theorem stAt_bd {water add s0 : Int} (h0 : 0 ≤ s0) (h1 : s0 ≤ 10000000) (ha : 0 ≤ add) : ∀ k, (∀ i, i < k → water ≤ stAt water add s0 i) → 0 ≤ stAt water add s0 k ∧ stAt water add s0 k ≤ 10000000
  | 0, _ => ⟨h0, h1⟩
  | k + 1, h => by
    have := h k (by omega)
    simp only [stAt]
    omega

def tripsDry (t r s p water gap : Int) : Int × Int :=
  if askCode (vBasin t r s p) (inB water 0 20000 && inB gap 0 1440) = 0 then ((dry water (p * gap) s : Int), 0) else (0, askCode (vBasin t r s p) (inB water 0 20000 && inB gap 0 1440))
theorem dry_eq {water add s0 : Int} {k : Nat} (hk : (k : Int) ≤ 1000) (hb : ∀ i, i < k → water ≤ stAt water add s0 i) (ha : (k : Int) < 1000 → stAt water add s0 k < water) : dry water add s0 = k :=
  firstTo_eq (by omega) (fun i hi => by have := hb i hi; simp; omega) (fun h => by have := ha (by omega); simpa using this)
theorem stAt_succ (water add s0 : Int) (k : Nat) : stAt water add s0 (k + 1) = min 10000000 (stAt water add s0 k - water + add) := rfl
theorem stAt_zero (water add s0 : Int) : stAt water add s0 0 = s0 := rfl
theorem tripsDry_yes {t r s p water gap : Int} (hv : vBasin t r s p = true) (hi : inB water 0 20000 = true) (hj : inB gap 0 1440 = true) : tripsDry t r s p water gap = ((dry water (p * gap) s : Int), 0) := by unfold tripsDry; rw [hv, hi, hj]; rfl
theorem tripsDry_no {t r s p water gap : Int} (h : askCode (vBasin t r s p) (inB water 0 20000 && inB gap 0 1440) ≠ 0) : tripsDry t r s p water gap = (0, askCode (vBasin t r s p) (inB water 0 20000 && inB gap 0 1440)) := by
  unfold tripsDry; rw [if_neg h]

attribute [irreducible] stAt dry tripsDry

end Go.Proofs.YtjgajablgddkcaaDoor
