/- Contracts on basins: the reference's functions and the program's compute the same plain functions. -/
import Derived.Test.YtmgbbfbalmlpiaaGreatDoorFuncs
namespace Go.Proofs.YtmgbbfbalmlpiaaGreatDoor
open Go.RowKit Go.Deep

def vBasin (t r s p : Int) : Bool := inB t 1 20000 && inB r 1 1000 && inB s 0 10000000 && inB p 0 1000
theorem vBasin_out {t r s p : Int} (h : vBasin t r s p = true) : 1 ≤ t ∧ t ≤ 20000 ∧ 1 ≤ r ∧ r ≤ 1000 ∧ 0 ≤ s ∧ s ≤ 10000000 ∧ 0 ≤ p ∧ p ≤ 1000 := by
  simp only [vBasin, Bool.and_eq_true, inB_iff] at h; omega

theorem i_ValidBasin (t r s p : Int) (W : World) : Calls Tryz.prog 28 #[.agg #[.int .i64 t, .int .i64 r, .int .i64 s, .int .i64 p]] W fun e W' => e = .returned (.bool (vBasin t r s p)) ∧ Below W.heap.size W W' := by
  go_enter Tryz.func28, Tryz.ntmps28
  go_wp2_with (first | (go_at_call 42; refine (i_within _ _ _ _).mono ?_; rintro e w' ⟨rfl, rfl⟩) | (go_at_call 46; refine (i_isStore _ _).mono ?_; rintro e w' ⟨rfl, rfl⟩))
  all_goals
    go_ret
    exact ⟨by simp [vBasin, *], (by repeat (first | assumption | exact Below.refl _ _ | refine kept_drew ?_ | refine kept_drewN ?_ _ | refine kept_alloc ?_ _ | refine kept_set ?_ ?_ _ | (simp; done) | (simp; omega) | refine kept_trans ?_ (by assumption)))⟩

theorem s_l16Ok (t r s p : Int) (W : World) (g : Nat) (h0 : W.cell? ⟨g, 0, none⟩ = some (.int .i64 t)) (h1 : W.cell? ⟨g, 1, none⟩ = some (.int .i64 r)) (h2 : W.cell? ⟨g, 2, none⟩ = some (.int .i64 s)) (h3 : W.cell? ⟨g, 3, none⟩ = some (.int .i64 p)) :
    Calls Tryz.prog 29 #[.pointer (some ⟨g, 0, none⟩)] W fun e W' => e = .returned (.bool (vBasin t r s p)) ∧ W = W' := by
  go_enter Tryz.func29, Tryz.ntmps29
  go_wp2_with (go_at_call 47; refine (s_l00In _ _ _ _).mono ?_; rintro e w' ⟨rfl, rfl⟩)
  all_goals
    go_ret
    exact ⟨by simp [vBasin, *], rfl⟩

theorem i_basined (t r s p : Int) (f : Bool) (W : World) : Calls Tryz.prog 20 #[.agg #[.int .i64 t, .int .i64 r, .int .i64 s, .int .i64 p], .bool f] W fun e W' => e = .returned (.int .i64 (askCode (vBasin t r s p) f)) ∧ Below W.heap.size W W' := by
  cases hv : vBasin t r s p <;> cases f
  all_goals
    go_enter Tryz.func20, Tryz.ntmps20
    go_wp2_with (go_at_call 28; refine (i_ValidBasin _ _ _ _ _).mono ?_; rintro e w1 ⟨rfl, hb⟩; have hk := kept_trans (by first | assumption | exact kept_alloc (by assumption) _ | exact kept_drew (by assumption) | exact Below.refl _ _) hb; obtain ⟨hc, hf⟩ := bcell hk; have hz := hk.size; try simp at hz)
    go_ret
    exact ⟨rfl, (by repeat (first | assumption | exact Below.refl _ _ | refine kept_drew ?_ | refine kept_drewN ?_ _ | refine kept_alloc ?_ _ | refine kept_set ?_ ?_ _ | (simp; done) | (simp; omega) | refine kept_trans ?_ (by assumption)))⟩

def fillS (t r s p water : Int) : Int × Int := if askCode (vBasin t r s p) (inB water 0 20000) = 0 then ((water + r - 1) / r, 0) else (0, askCode (vBasin t r s p) (inB water 0 20000))

theorem i_FillSeconds (t r s p water : Int) (W : World) : Calls Tryz.prog 7 #[.agg #[.int .i64 t, .int .i64 r, .int .i64 s, .int .i64 p], .int .i64 water] W fun e W' => e = .returned (.tuple #[.int .i64 (fillS t r s p water).1, .int .i64 (fillS t r s p water).2]) ∧ Below W.heap.size W W' := by
  have hb := @vBasin_out t r s p
  have hw := @inB_out water 0 20000
  have k0 : ∀ dd os, (Go.Sort.grow (redrawn (W.alloc (.cells #[.int .i64 t, .int .i64 r, .int .i64 s, .int .i64 p] 25)) dd) os).cell? ⟨W.heap.size, 0, none⟩ = some (.int .i64 t) := fun dd os => boxed 0 _ rfl dd os
  have k1 : ∀ dd os, (Go.Sort.grow (redrawn (W.alloc (.cells #[.int .i64 t, .int .i64 r, .int .i64 s, .int .i64 p] 25)) dd) os).cell? ⟨W.heap.size, 1, none⟩ = some (.int .i64 r) := fun dd os => boxed 1 _ rfl dd os
  have k2 : ∀ dd os, (Go.Sort.grow (redrawn (W.alloc (.cells #[.int .i64 t, .int .i64 r, .int .i64 s, .int .i64 p] 25)) dd) os).cell? ⟨W.heap.size, 2, none⟩ = some (.int .i64 s) := fun dd os => boxed 2 _ rfl dd os
  have k3 : ∀ dd os, (Go.Sort.grow (redrawn (W.alloc (.cells #[.int .i64 t, .int .i64 r, .int .i64 s, .int .i64 p] 25)) dd) os).cell? ⟨W.heap.size, 3, none⟩ = some (.int .i64 p) := fun dd os => boxed 3 _ rfl dd os
  cases hv : vBasin t r s p <;> cases hi : inB water 0 20000
  case true.true =>
    have hb := hb hv
    have hw := hw hi
    have HF : Hid (fillS t r s p water = ((water + r - 1) / r, 0)) := by unfold fillS; rw [hv, hi]; rfl
    have e1 : askCode true true = 0 := rfl
    go_enter Tryz.func7, Tryz.ntmps7
    go_wp2_with (fail)
    refine wp_region_quiet_below (by kernel_rfl) (by kernel_rfl) ?_
    repeat (go_big_quiet_step ((first | (go_at_call 24; exact Go.Proofs.YtmgbbfbalmlpiaaGreatDoor.Calls.regrown_same (i_isTank _ _)) | (go_at_call 20; exact Calls.regrown_of (i_basined _ _ _ _ _ _)))))
    refine wpQuiet_nil ?_
    intro w2 hw2
    have hk := below_of_regrown hw2
    clear hw2 k0 k1 k2 k3
    obtain ⟨hc, hf⟩ := bcell hk
    have hz := hk.size
    try simp at hz
    go_wp2_with (first | (go_at_call 25; refine (i_ceilDiv _ _ _ ?_).mono ?_; (omega); rintro e w' ⟨rfl, rfl⟩))
    go_ret2
    exact ⟨by rw [HF.out]; rfl, (by repeat (first | assumption | exact Below.refl _ _ | refine kept_drew ?_ | refine kept_drewN ?_ _ | refine kept_alloc ?_ _ | refine kept_set ?_ ?_ _ | (simp; done) | (simp; omega) | refine kept_trans ?_ (by assumption)))⟩
  all_goals
    have e0 : askCode false false = 1 := rfl
    have e1 : askCode false true = 1 := rfl
    have e2 : askCode true false = 2 := rfl
    clear hb hw
    go_enter Tryz.func7, Tryz.ntmps7
    go_wp2_with (fail)
    refine wp_region_quiet_below (by kernel_rfl) (by kernel_rfl) ?_
    repeat (go_big_quiet_step ((first | (go_at_call 24; exact Go.Proofs.YtmgbbfbalmlpiaaGreatDoor.Calls.regrown_same (i_isTank _ _)) | (go_at_call 20; exact Calls.regrown_of (i_basined _ _ _ _ _ _)))))
    refine wpQuiet_nil ?_
    intro w2 hw2
    have hk := below_of_regrown hw2
    clear hw2 k0 k1 k2 k3
    obtain ⟨hc, hf⟩ := bcell hk
    have hz := hk.size
    try simp at hz
    go_wp2_with (fail)
    go_ret2
    exact ⟨by simp [fillS, *], (by repeat (first | assumption | exact Below.refl _ _ | refine kept_drew ?_ | refine kept_drewN ?_ _ | refine kept_alloc ?_ _ | refine kept_set ?_ ?_ _ | (simp; done) | (simp; omega) | refine kept_trans ?_ (by assumption)))⟩

/-! ### The pull -/
def vThree (b r g : Int) : Bool := inB b 0 100000 && inB r 0 100000 && inB g 1 900
def pullI (t b r g : Int) : Int := rnd ((t - b - r) * g * 981) 100000
def pull (t b r g : Int) : Int × Int := if inB t 0 100000 && vThree b r g then (pullI t b r g, 0) else (0, 2)
theorem pull_bd {x g : Int} (h : -300000 ≤ x ∧ x ≤ 300000 ∧ 1 ≤ g ∧ g ≤ 900) : -270000000 ≤ x * g ∧ x * g ≤ 270000000 := by
  obtain ⟨h1, h2, h3, h4⟩ := h
  by_cases h0 : 0 ≤ x
  · have := Int.mul_le_mul h2 h4 (by omega) (by omega : (0 : Int) ≤ 300000)
    have := Int.mul_nonneg h0 (show 0 ≤ g by omega)
    omega
  · have := Int.mul_le_mul (show -x ≤ 300000 by omega) h4 (by omega) (by omega : (0 : Int) ≤ 300000)
    have := Int.mul_nonneg (show 0 ≤ -x by omega) (show 0 ≤ g by omega)
    rw [Int.neg_mul] at *
    omega

theorem i_pullDown (t b r g : Int) (W : World) (h : -300000 ≤ t - b - r ∧ t - b - r ≤ 300000 ∧ 1 ≤ g ∧ g ≤ 900 ∧ 0 ≤ t ∧ t ≤ 200000 ∧ 0 ≤ b ∧ b ≤ 100000 ∧ 0 ≤ r ∧ r ≤ 100000) :
    Calls Tryz.prog 26 #[.int .i64 t, .int .i64 b, .int .i64 r, .int .i64 g] W fun e W' => e = .returned (.int .i64 (pullI t b r g)) ∧ Below W.heap.size W W' := by
  have hp := pull_bd (x := t - b - r) (g := g) (by omega)
  go_enter Tryz.func26, Tryz.ntmps26
  go_wp2_with (first | (go_at_call 45; refine (i_nearest _ _ _ ?_).mono ?_; (omega); rintro e w' ⟨rfl, m, rfl⟩))
  go_ret
  exact ⟨rfl, (by repeat (first | assumption | exact Below.refl _ _ | refine kept_drew ?_ | refine kept_drewN ?_ _ | refine kept_alloc ?_ _ | refine kept_set ?_ ?_ _ | (simp; done) | (simp; omega) | refine kept_trans ?_ (by assumption)))⟩

theorem s_l16Pull (t b r g : Int) (W : World) (h : -300000 ≤ t - b - r ∧ t - b - r ≤ 300000 ∧ 1 ≤ g ∧ g ≤ 900 ∧ 0 ≤ t ∧ t ≤ 200000 ∧ 0 ≤ b ∧ b ≤ 100000 ∧ 0 ≤ r ∧ r ≤ 100000) :
    Calls Tryz.prog 48 #[.int .i64 t, .int .i64 b, .int .i64 r, .int .i64 g] W fun e W' => e = .returned (.int .i64 (pullI t b r g)) ∧ W = W' := by
  have hp := pull_bd (x := t - b - r) (g := g) (by omega)
  go_enter Tryz.func48, Tryz.ntmps48
  go_wp2_with (first | (go_at_call 56; refine (s_l01Div _ _ _ ?_).mono ?_; (omega); rintro e w' ⟨rfl, rfl⟩))
  go_ret
  exact ⟨rfl, rfl⟩

theorem s_l16Three (b r g : Int) (W : World) : Calls Tryz.prog 31 #[.int .i64 b, .int .i64 r, .int .i64 g] W fun e W' => e = .returned (.bool (vThree b r g)) ∧ W = W' := by
  go_enter Tryz.func31, Tryz.ntmps31
  go_wp2_with (first | (go_at_call 30; refine (s_l04Kilos _ _).mono ?_; rintro e w' ⟨rfl, rfl⟩) | (go_at_call 47; refine (s_l00In _ _ _ _).mono ?_; rintro e w' ⟨rfl, rfl⟩))
  all_goals
    go_ret
    exact ⟨by simp [vThree, *], rfl⟩

theorem i_areLoads1 (x : Int) (W : World) : Calls Tryz.prog 40 #[.int .i64 x] W fun e W' => e = .returned (.bool (!inB x 0 100000)) ∧ Below W.heap.size W W' := by
  go_enter Tryz.func40, Tryz.ntmps40
  go_wp2_with (first | (go_at_call 41; refine (i_isLoad _ _).mono ?_; rintro e w' ⟨rfl, rfl⟩))
  go_ret
  exact ⟨rfl, (by repeat (first | assumption | exact Below.refl _ _ | refine kept_drew ?_ | refine kept_drewN ?_ _ | refine kept_alloc ?_ _ | refine kept_set ?_ ?_ _ | (simp; done) | (simp; omega) | refine kept_trans ?_ (by assumption)))⟩

theorem i_areLoads (rope grade : Int) (v : Value) (n : Nat) (z : Nat → Int) (W : World) (hs : Sl W v 1 n (ic z)) : Calls Tryz.prog 21 #[.int .i64 rope, .int .i64 grade, v] W fun e W' => e = .returned (.bool (allTo (fun i => inB (z i) 0 100000) n && inB rope 0 100000 && inB grade 1 900)) ∧ Below W.heap.size W W' := by
  have hp : Answers W 40 #[] n (ic z) (fun i => !inB (z i) 0 100000) := ⟨enters Tryz.func40 (by kernel_rfl) rfl, fun i _ w _ => i_areLoads1 (z i) w⟩
  have hc := containsFunc_ints 40 #[] _ v n z W hs hp
  clear hp hs
  simp only [Bool.not_not] at hc
  have hc := Lib.hid hc
  generalize allTo (fun i => inB (z i) 0 100000) n = q at hc
  cases q
  all_goals
    go_enter Tryz.func21, Tryz.ntmps21
    go_wp2_with (first | (go_at_call 39; refine hc.out.mono ?_; rintro e w1 ⟨rfl, hb1⟩) | (go_at_call 41; refine (i_isLoad _ _).mono ?_; rintro e w' ⟨rfl, rfl⟩) | (go_at_call 42; refine (i_within _ _ _ _).mono ?_; rintro e w' ⟨rfl, rfl⟩))
    all_goals
      go_ret
      exact ⟨by simp [*], (by repeat (first | assumption | exact Below.refl _ _ | refine kept_drew ?_ | refine kept_drewN ?_ _ | refine kept_alloc ?_ _ | refine kept_set ?_ ?_ _ | (simp; done) | (simp; omega) | refine kept_trans ?_ (by assumption)))⟩

def pairZ (a b : Int) : Nat → Int := fun i => if i = 0 then a else b
theorem Sl.pair {W : World} {a b : Int} {t : TypeId} : Sl (W.alloc (.cells #[.int .i64 a, .int .i64 b] t)) (.slice (some ⟨W.heap.size, 0, none⟩) 2 2) 1 2 (ic (pairZ a b)) :=
  Sl.of_row (by omega) (Row.of_rowIs (World.rowIs_alloc W #[.int .i64 a, .int .i64 b] t (ic (pairZ a b)) (fun i hi => by
    have hi' : i < 2 := by simpa using hi
    match i, hi' with
    | 0, _ => rfl
    | 1, _ => rfl)))

theorem i_PullDown (t b r g : Int) (W : World) : Calls Tryz.prog 8 #[.int .i64 t, .int .i64 b, .int .i64 r, .int .i64 g] W fun e W' => e = .returned (.tuple #[.int .i64 (pull t b r g).1, .int .i64 (pull t b r g).2]) ∧ Below W.heap.size W W' := by
  have hA := (i_areLoads r g _ 2 (pairZ t b) (W.alloc (.cells #[.int .i64 t, .int .i64 b] 2)) Sl.pair)
  have ea : (allTo (fun i => inB (pairZ t b i) 0 100000) 2 && inB r 0 100000 && inB g 1 900) = (inB t 0 100000 && vThree b r g) := by
    show ((true && inB t 0 100000) && inB b 0 100000 && inB r 0 100000 && inB g 1 900) = _
    unfold vThree
    simp [Bool.and_assoc]
  rw [ea] at hA
  have hA := Lib.hid hA
  clear ea
  cases hv : (inB t 0 100000 && vThree b r g)
  · have HF : Hid (pull t b r g = (0, 2)) := by unfold pull; rw [hv]; rfl
    rw [hv] at hA
    clear hv
    go_enter Tryz.func8, Tryz.ntmps8
    go_wp2_with (first | (go_at_call 21; refine hA.out.mono ?_; rintro e w1 ⟨rfl, hb1⟩))
    go_ret2
    exact ⟨by rw [HF.out]; rfl, (by repeat (first | assumption | exact Below.refl _ _ | refine kept_drew ?_ | refine kept_drewN ?_ _ | refine kept_alloc ?_ _ | refine kept_set ?_ ?_ _ | (simp; done) | (simp; omega) | refine kept_trans ?_ (by assumption)))⟩
  · have HF : Hid (pull t b r g = (pullI t b r g, 0)) := by unfold pull; rw [hv]; rfl
    rw [hv] at hA
    simp only [vThree, Bool.and_eq_true, inB_iff] at hv
    obtain ⟨⟨t0, t1⟩, ⟨⟨b0, b1⟩, r0, r1⟩, g0, g1⟩ := hv
    go_enter Tryz.func8, Tryz.ntmps8
    go_wp2_with (first | (go_at_call 21; refine hA.out.mono ?_; rintro e w1 ⟨rfl, hb1⟩) | (go_at_call 26; refine (i_pullDown _ _ _ _ _ ?_).mono ?_; (omega); rintro e w2 ⟨rfl, hb2⟩))
    go_ret2
    exact ⟨by rw [HF.out]; rfl, (by repeat (first | assumption | exact Below.refl _ _ | refine kept_drew ?_ | refine kept_drewN ?_ _ | refine kept_alloc ?_ _ | refine kept_set ?_ ?_ _ | (simp; done) | (simp; omega) | refine kept_trans ?_ (by assumption)))⟩

/-! ### Trips till the store is dry -/
def stAt (water add s0 : Int) : Nat → Int
  | 0 => s0
  | k + 1 => min 10000000 (stAt water add s0 k - water + add)
def dry (water add s0 : Int) : Nat := firstTo (fun i => decide (stAt water add s0 i < water)) 1000
theorem stAt_bd {water add s0 : Int} (h0 : 0 ≤ s0) (h1 : s0 ≤ 10000000) (ha : 0 ≤ add) : ∀ k, (∀ i, i < k → water ≤ stAt water add s0 i) → 0 ≤ stAt water add s0 k ∧ stAt water add s0 k ≤ 10000000
  | 0, _ => ⟨h0, h1⟩
  | k + 1, h => by
    have := h k (by omega)
    simp only [stAt]
    omega

def tripsDry (t r s p water gap : Int) : Int × Int :=
  if askCode (vBasin t r s p) (inB water 0 20000 && inB gap 0 1440) = 0 then ((dry water (p * gap) s : Int), 0) else (0, askCode (vBasin t r s p) (inB water 0 20000 && inB gap 0 1440))
theorem dry_eq {water add s0 : Int} {k : Nat} (hk : (k : Int) ≤ 1000) (hb : ∀ i, i < k → water ≤ stAt water add s0 i) (ha : (k : Int) < 1000 → stAt water add s0 k < water) : dry water add s0 = k :=
  firstTo_eq (by omega) (fun i hi => by have := hb i hi; simp; omega) (fun h => by have := ha (by omega); simpa using this)
theorem stAt_succ (water add s0 : Int) (k : Nat) : stAt water add s0 (k + 1) = min 10000000 (stAt water add s0 k - water + add) := rfl
theorem stAt_zero (water add s0 : Int) : stAt water add s0 0 = s0 := rfl
theorem tripsDry_yes {t r s p water gap : Int} (hv : vBasin t r s p = true) (hi : inB water 0 20000 = true) (hj : inB gap 0 1440 = true) : tripsDry t r s p water gap = ((dry water (p * gap) s : Int), 0) := by unfold tripsDry; rw [hv, hi, hj]; rfl
theorem tripsDry_no {t r s p water gap : Int} (h : askCode (vBasin t r s p) (inB water 0 20000 && inB gap 0 1440) ≠ 0) : tripsDry t r s p water gap = (0, askCode (vBasin t r s p) (inB water 0 20000 && inB gap 0 1440)) := by
  unfold tripsDry; rw [if_neg h]

attribute [irreducible] stAt dry tripsDry

end Go.Proofs.YtmgbbfbalmlpiaaGreatDoor
