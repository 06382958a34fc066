/- What the law on timetables wants: picks, the next ride, delays, the longest wait. No program. -/
import Derived.Test.YteieiceknnnphaaDoorDraw19
import Derived.Test.YteieiceknnnphaaDoorSlack
import Derived.Test.YteieiceknnnphaaDoorBetween
import Derived.Test.YteieiceknnnphaaDoorNext
import Derived.Test.YteieiceknnnphaaDoorLate2
import Derived.Test.YteieiceknnnphaaDoorWaits
namespace Go.Proofs.YteieiceknnnphaaDoor
open Go.RowKit Go.Deep
set_option linter.unusedVariables false
set_option maxRecDepth 100000

theorem drawn_out2 {n : Nat} {lv tk : Nat → Int} {a : Int} (h : DrawnTo n lv tk a) : (300 ≤ a ∧ a ≤ 499 + 23 * n) ∧ ∀ i, i < n → 300 ≤ lv i ∧ 4 ≤ tk i ∧ tk i ≤ 9 ∧ lv i + tk i ≤ a ∧ (0 < i → lv (i - 1) + tk (i - 1) ≤ lv i) := by
  unfold DrawnTo at h; exact h
theorem drawn_ride {n : Nat} {lv tk : Nat → Int} {a : Int} (h : DrawnTo n lv tk a) (hn : n ≤ 7) {i : Nat} (hi : i < n) : vRide (lv i) (tk i) = true := by
  obtain ⟨ha, hr⟩ := drawn_out2 h
  have := hr i hi
  unfold vRide; rw [inB_yes (by omega) (by omega), inB_yes (by omega) (by omega), decide_eq_true (p := lv i + tk i ≤ 1440) (by omega)]; rfl
theorem ask_zero {n : Nat} {lv tk : Nat → Int} {b : Bool} (h : vTable n lv tk = true) (hb : b = true) : tAsk n lv tk b = 0 := by unfold tAsk; rw [h, hb]; rfl
theorem slack_ok2 {n : Nat} {lv tk : Nat → Int} {u : Int} (h : vTable n lv tk = true) (hu : 0 ≤ u ∧ u ≤ 4) : slack n lv tk u = (n - 1, 0) := by
  unfold slack; rw [if_pos (ask_zero h (inB_yes (by omega) (by omega)))]

/-! ### The rides between two minutes -/
theorem picks_mem {p : Nat → Bool} {x : Int} : ∀ {n : Nat}, x ∈ picks p n ↔ ∃ k : Nat, k < n ∧ p k = true ∧ x = k := by
  intro n
  induction n with
  | zero => rw [picks_zero]; simp
  | succ n ih =>
    cases hp : p n with
    | false =>
      rw [picks_no hp, ih]
      constructor
      · rintro ⟨k, h1, h2, h3⟩; exact ⟨k, by omega, h2, h3⟩
      · rintro ⟨k, h1, h2, h3⟩
        by_cases e : k = n
        · subst e; rw [hp] at h2; cases h2
        · exact ⟨k, by omega, h2, h3⟩
    | true =>
      rw [picks_yes hp, List.mem_append, ih]
      constructor
      · rintro (⟨k, h1, h2, h3⟩ | h)
        · exact ⟨k, by omega, h2, h3⟩
        · exact ⟨n, by omega, hp, by simpa using h⟩
      · rintro ⟨k, h1, h2, h3⟩
        by_cases e : k = n
        · subst e; exact .inr (by simpa using h3)
        · exact .inl ⟨k, by omega, h2, h3⟩
theorem between_ok {n : Nat} {lv tk : Nat → Int} {f u : Int} (h : vTable n lv tk = true) (hf : 280 ≤ f ∧ f ≤ 479) (hu : f ≤ u ∧ u ≤ f + 199) : between n lv tk f u = (picks (fun k => inB (lv k) f u) n, 0) := by
  have hs : vSpan f u = true := by rw [vSpan_alt, inB_yes (by omega) (by omega), inB_yes (by omega) (by omega)]; rfl
  unfold between; rw [if_pos (ask_zero h hs)]
theorem picks_at {p : Nat → Bool} {n k : Nat} (hk : k < n) : decide ((k : Int) ∈ picks p n) = p k := by
  cases hp : p k with
  | true => exact decide_eq_true (picks_mem.2 ⟨k, hk, hp, rfl⟩)
  | false =>
    refine decide_eq_false fun h => ?_
    obtain ⟨j, h1, h2, h3⟩ := picks_mem.1 h
    have : j = k := by omega
    subst this
    rw [hp] at h2
    cases h2

/-! ### The next ride -/
/-- What the law keeps as the first ride so far. -/
def FirstAt (lv : Nat → Int) (f : Int) (k : Nat) (x : Int) : Prop := (x = -1 ∧ ∀ j, j < k → lv j < f) ∨ ∃ i : Nat, x = i ∧ i < k ∧ f ≤ lv i ∧ ∀ j, j < i → lv j < f
theorem first_zero (lv : Nat → Int) (f : Int) : FirstAt lv f 0 (-1) := .inl ⟨rfl, fun j hj => absurd hj (by omega)⟩
theorem first_bd {lv : Nat → Int} {f : Int} {k : Nat} {x : Int} (h : FirstAt lv f k x) : -1 ≤ x ∧ x < k ∨ x = -1 := by
  rcases h with ⟨h, -⟩ | ⟨i, h1, h2, -⟩ <;> omega
theorem first_keep {lv : Nat → Int} {f : Int} {k : Nat} {x : Int} (h : FirstAt lv f k x) (hx : 0 ≤ x ∨ lv k < f) : FirstAt lv f (k + 1) x := by
  rcases h with ⟨h1, h2⟩ | ⟨i, h1, h2, h3⟩
  · refine .inl ⟨h1, fun j hj => ?_⟩
    by_cases e : j = k
    · subst e
      rcases hx with hx | hx
      · omega
      · exact hx
    · exact h2 j (by omega)
  · exact .inr ⟨i, h1, by omega, h3⟩
theorem first_new {lv : Nat → Int} {f : Int} {k : Nat} {x : Int} (h : FirstAt lv f k x) (hx : x < 0) (hk : f ≤ lv k) : FirstAt lv f (k + 1) k := by
  rcases h with ⟨h1, h2⟩ | ⟨i, h1, h2, h3⟩
  · exact .inr ⟨k, rfl, by omega, hk, h2⟩
  · omega
theorem next_first {n : Nat} {lv tk : Nat → Int} {f x : Int} (h : vTable n lv tk = true) (hf : 280 ≤ f ∧ f ≤ 479) (hx : FirstAt lv f n x) :
    (0 ≤ x ∧ next n lv tk f = (x, 0)) ∨ (x < 0 ∧ next n lv tk f = (0, 3)) := by
  have h0 := ask_zero (b := inB f 0 1440) h (inB_yes (by omega) (by omega))
  unfold next
  rw [if_pos h0]
  rcases hx with ⟨h1, h2⟩ | ⟨i, h1, h2, h3, h4⟩
  · refine .inr ⟨by omega, ?_⟩
    rw [idxTo_none (p := nextP lv f) (fun i hi => by unfold nextP; have := h2 i hi; simpa using this)]
    rfl
  · refine .inl ⟨by omega, ?_⟩
    rw [idxTo_at (p := nextP lv f) h2 (fun j hj => by unfold nextP; have := h4 j hj; simpa using this) (by unfold nextP; simpa using h3), if_neg (by omega), h1]
attribute [irreducible] FirstAt

/-! ### Delays -/
theorem delay_ok {n k : Nat} {lv tk : Nat → Int} {d u : Int} (h : vTable n lv tk = true) (hk : k < n) (hd : 0 ≤ d ∧ d ≤ 39) (hu : 0 ≤ u ∧ u ≤ 4) : tAsk n lv tk (delayOk n (k : Int) d u) = 0 ∧ delayN n lv tk (k : Int) d u = n ∧ sumD n lv tk (k : Int) d u = lateSum lv tk k d u n := by
  have hb : delayOk n (k : Int) d u = true := by unfold delayOk; rw [inB_yes (by omega) (by omega), inB_yes (by omega) (by omega), inB_yes (by omega) (by omega)]; rfl
  have h0 := ask_zero h hb
  exact ⟨h0, by unfold delayN; rw [if_pos h0], sumD_yes h0⟩
theorem late_ge {lv tk : Nat → Int} {k : Nat} {d u : Int} (hd : 0 ≤ d) (i : Nat) : lv i ≤ late lv tk k d u i := by
  rcases Nat.lt_trichotomy i k with h | h | h
  · rw [late_lt h]; exact Int.le_refl _
  · subst h; rw [late_eq]; omega
  · rw [late_gt h]; exact Int.le_max_left _ _
theorem drawn_bds {n : Nat} {lv tk : Nat → Int} {a : Int} (h : DrawnTo n lv tk a) (hn : n ≤ 7) : ∀ i, i < n → 0 ≤ lv i ∧ lv i ≤ 1440 ∧ 1 ≤ tk i ∧ tk i ≤ 1440 := fun i hi => by
  obtain ⟨ha, hr⟩ := drawn_out2 h
  have := hr i hi
  omega

/-! ### The longest wait -/
theorem wait_spec {lv : Nat → Int} : ∀ k, (∀ i, i < k → lv i < lv (i + 1)) → 1 ≤ k → ∃ j : Nat, (waitTo lv k).1 = j ∧ 1 ≤ j ∧ j ≤ k ∧ (waitTo lv k).2 = lv j - lv (j - 1) ∧ ∀ i, 1 ≤ i → i ≤ k → lv i - lv (i - 1) ≤ (waitTo lv k).2 := by
  intro k
  induction k with
  | zero => intro _ h; omega
  | succ k ih =>
    intro hm _
    by_cases hk : k = 0
    · subst hk
      have h0 := hm 0 (by omega)
      rw [waitTo_yes (b := 0) (m := -1) (waitTo_zero lv) (by omega)]
      exact ⟨1, rfl, by omega, by omega, rfl, fun i h1 h2 => by
        have e : i = 1 := by omega
        subst e
        exact Int.le_refl _⟩
    · obtain ⟨j, h1, h2, h3, h4, h5⟩ := ih (fun i hi => hm i (by omega)) (by omega)
      by_cases hc : (waitTo lv k).2 < lv (k + 1) - lv k
      · rw [waitTo_yes (b := (waitTo lv k).1) (m := (waitTo lv k).2) rfl hc]
        refine ⟨k + 1, rfl, by omega, by omega, rfl, fun i hi1 hi2 => ?_⟩
        by_cases e : i = k + 1
        · subst e; exact Int.le_refl _
        · have := h5 i hi1 (by omega)
          show lv i - lv (i - 1) ≤ lv (k + 1) - lv k
          omega
      · rw [waitTo_no (b := (waitTo lv k).1) (m := (waitTo lv k).2) rfl (by omega)]
        refine ⟨j, h1, h2, by omega, h4, fun i hi1 hi2 => ?_⟩
        by_cases e : i = k + 1
        · subst e; show lv (k + 1) - lv k ≤ (waitTo lv k).2; omega
        · exact h5 i hi1 (by omega)
theorem longest_few {n : Nat} {lv tk : Nat → Int} (h : vTable n lv tk = true) (hn : n ≤ 1) : longest n lv tk = (0, 0, 3) := by unfold longest; rw [h, if_pos rfl, if_pos (by omega)]
theorem longest_many {n : Nat} {lv tk : Nat → Int} {a : Int} (h : DrawnTo n lv tk a) (hn : n ≤ 7) (h2 : 2 ≤ n) : ∃ (j : Nat) (m : Int), longest n lv tk = ((j : Int), m, 0) ∧ 1 ≤ j ∧ j < n ∧ lv j - lv (j - 1) = m ∧ ∀ i, 1 ≤ i → i < n → lv i - lv (i - 1) ≤ m := by
  obtain ⟨ha, hr⟩ := drawn_out2 h
  have hv := drawn_table h hn
  obtain ⟨j, h3, h4, h5, h6, h7⟩ := wait_spec (lv := lv) (n - 1) (fun i hi => by
    have h8 := hr i (by omega)
    have h9 := (hr (i + 1) (by omega)).2.2.2.2 (by omega)
    rw [Nat.add_sub_cancel] at h9
    omega) (by omega)
  refine ⟨j, (waitTo lv (n - 1)).2, ?_, h4, by omega, h6.symm, fun i hi1 hi2 => h7 i hi1 (by omega)⟩
  unfold longest
  rw [hv, if_pos rfl, if_neg (by omega), h3]

end Go.Proofs.YteieiceknnnphaaDoor
